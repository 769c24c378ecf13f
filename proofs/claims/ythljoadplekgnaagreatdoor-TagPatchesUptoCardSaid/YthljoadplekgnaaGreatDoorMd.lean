/- Models: partial functions in plain Lean that stand for Go functions, the guards of single operations, and one way to loop and to recur. Conditions: none. -/
import GoSem.Step
import Derived.Shelf.SlGeneric
import Derived.Shelf.SlicesG.Cmp
import Derived.Shelf.SlSortCmp.WholeK
import Derived.Shelf.Small.Bits
import Derived.Ground.SlsfProg
import Derived.Ground.SlgcProg
import Derived.Test.YthljoadplekgnaaGreatDoorProg
import Derived.Orders
import Derived.Tactics
import Derived.Below
import Derived.KernelRfl
import Derived.Laws.Cells
import Derived.Laws.CopyRow
import Derived.Laws.Externs
import Derived.IntWalk
import Derived.Deep.LoopGhost
import Derived.LoopN
import Derived.Laws.StructEq
import Derived.Maps.AppendAt
import Derived.Laws.OwnMore
import Derived.Laws.Slices
import Derived.Laws.Strings3
import Derived.Laws.Concat
namespace Go.Md
def Js {α β : Type} (m : Option α) (k : α → Option β) : Option β :=
 match m with
 | some a => k a
 | none => none
theorem Je {α β : Type} {m : Option α} {k : α → Option β} {r : β} (h : Js m k = some r) : ∃ a, m = some a ∧ k a = some r := by
 cases m with
 | none => cases h
 | some a => exact ⟨a, rfl, h⟩
@[simp] theorem Jb {α β : Type} (a : α) (k : α → Option β) : Js (some a) k = k a := rfl
@[simp] theorem bnd_none {α β : Type} (k : α → Option β) : Js none k = none := rfl
def val {α : Type} [Inhabited α] (m : Option α) : α := m.getD default
theorem Jt {α β : Type} [Inhabited α] {m : Option α} {k : α → Option β} {r : β} (h : Js m k = some r) : m = some (val m) := by
 cases m with
 | none => cases h
 | some a => rfl
theorem Jn {α β : Type} [Inhabited α] {m : Option α} {k : α → Option β} {r : β} (h : Js m k = some r) : k (val m) = some r := by
 cases m with
 | none => cases h
 | some a => exact h
def Qe {α : Type} (b : Bool) (x y : Option α) : Option α := match b with | true => x | false => y
theorem Uo {α : Type} {b : Bool} {x y : Option α} {r : Option α} (hb : b = true) (h : Qe b x y = r) : x = r := by subst hb; exact h
theorem Us {α : Type} {b : Bool} {x y : Option α} {r : Option α} (hb : b = false) (h : Qe b x y = r) : y = r := by subst hb; exact h
@[simp] theorem Qq {α : Type} (x y : Option α) : Qe true x y = x := rfl
@[simp] theorem Qa {α : Type} (x y : Option α) : Qe false x y = y := rfl
theorem cnd_if {α : Type} (p : Prop) [Decidable p] (x y : Option α) : Qe (decide p) x y = if p then x else y := by
 by_cases h : p <;> simp [h]
def it {α ρ : Type} (F : (α → Option ρ) → α → Option ρ) : Nat → α → Option ρ
 | 0, _ => none
 | n + 1, a => F (it F n) a
open Classical in
noncomputable def Vv {α ρ : Type} (F : (α → Option ρ) → α → Option ρ) (a : α) : Option ρ :=
 if h : ∃ r k, ∀ n, k ≤ n → it F n a = some r then some (Classical.choose h) else none
theorem Je9 {α ρ : Type} {F : (α → Option ρ) → α → Option ρ} {a : α} {r : ρ} (h : Vv F a = some r) : ∃ n, it F n a = some r := by
 unfold Vv at h
 split at h
 ·rename_i hh
  cases h
  obtain ⟨k, hk⟩ := Classical.choose_spec hh
  exact ⟨k, hk k (Nat.le_refl _)⟩
 ·cases h
theorem Jdu {α ρ : Type} {F : (α → Option ρ) → α → Option ρ} {a : α} {o : Option ρ} {k : Nat} (h : ∀ n, k ≤ n → it F n a = o) : Vv F a = o := by
 unfold Vv
 cases o with
 | some r =>
  have hh : ∃ r k, ∀ n, k ≤ n → it F n a = some r := ⟨r, k, h⟩
  rw [dif_pos hh]
  obtain ⟨k', hk'⟩ := Classical.choose_spec hh
  have h1 := hk' (max k k') (Nat.le_max_right _ _)
  rw [h _ (Nat.le_max_left _ _)] at h1
  exact h1.symm
 | none =>
  rw [dif_neg]
  rintro ⟨r, k', hk'⟩
  have h1 := hk' (max k k') (Nat.le_max_right _ _)
  rw [h _ (Nat.le_max_left _ _)] at h1
  cases h1
theorem fix_of {α ρ : Type} {F : (α → Option ρ) → α → Option ρ} (spec : α → Option ρ) (I : α → Prop) (μ : α → Nat)
  (step : ∀ (next : α → Option ρ) (a : α), I a → (∀ b, I b → μ b < μ a → next b = spec b) → F next a = spec a) (a : α) (ha : I a) : Vv F a = spec a := by
 have key : ∀ (n : Nat) (a : α), I a → μ a < n → it F n a = spec a := by
  intro n
  induction n with
  | zero => intro a _ h; omega
  | succ n ih => intro a ha h; exact step _ a ha fun b hb hlt => ih b hb (by omega)
 exact Jdu (k := μ a + 1) fun n hn => key n a ha (by omega)
theorem it_ev {α ρ : Type} {F : (α → Option ρ) → α → Option ρ} {a b : α} (h : ∀ next, F next a = next b) : Vv F a = Vv F b := by
 by_cases hb : ∃ r k, ∀ n, k ≤ n → it F n b = some r
 ·obtain ⟨r, k, hk⟩ := hb
  rw [Jdu (o := some r) (k := k) hk, Jdu (o := some r) (k := k + 1)]
  intro n hn
  cases n with
  | zero => omega
  | succ n => show F (it F n) a = some r; rw [h]; exact hk n (by omega)
 ·have ha : ¬ ∃ r k, ∀ n, k ≤ n → it F n a = some r := by
   rintro ⟨r, k, hk⟩
   exact hb ⟨r, k, fun n hn => by have := hk (n + 1) (by omega); rw [show it F (n + 1) a = F (it F n) a from rfl, h] at this; exact this⟩
  unfold Vv
  rw [dif_neg hb, dif_neg ha]
theorem Xu {α ρ : Type} {F : (α → Option ρ) → α → Option ρ} {a : α} (b : α) (h : ∀ next, F next a = next b) : Vv F a = Vv F b := it_ev h
theorem Qr {α ρ : Type} {F : (α → Option ρ) → α → Option ρ} {a : α} {o : Option ρ} (h : ∀ next, F next a = o) : Vv F a = o :=
 Jdu (k := 1) fun n hn => by
  cases n with
  | zero => omega
  | succ n => exact h _
def gI (x : Int) : Option Int := if -9223372036854775808 ≤ x ∧ x ≤ 9223372036854775807 then some x else none
theorem Jf6 {x y : Int} (h : gI x = some y) : y = x ∧ -9223372036854775808 ≤ x ∧ x ≤ 9223372036854775807 := by
 unfold gI at h; split at h
 ·cases h; exact ⟨rfl, ‹_›⟩
 ·cases h
theorem Ju {x : Int} (h : -9223372036854775808 ≤ x ∧ x ≤ 9223372036854775807) : gI x = some x := if_pos h
def gQuo (x y : Int) : Option Int := if y = 0 then none else gI (x.tdiv y)
theorem gQuo_some {x y z : Int} (h : gQuo x y = some z) : y ≠ 0 ∧ z = x.tdiv y ∧ -9223372036854775808 ≤ x.tdiv y ∧ x.tdiv y ≤ 9223372036854775807 := by
 unfold gQuo at h; split at h
 ·cases h
 ·exact ⟨‹_›, Jf6 h⟩
def gRem (x y : Int) : Option Int := if y = 0 then none else some (x.tmod y)
theorem gRem_some {x y z : Int} (h : gRem x y = some z) : y ≠ 0 ∧ z = x.tmod y := by
 unfold gRem at h; split at h
 ·cases h
 ·cases h; exact ⟨‹_›, rfl⟩
theorem gRem_ok {x y : Int} (hy : y ≠ 0) : gRem x y = some (x.tmod y) := if_neg hy
def Zb {α : Type} (xs : List α) (i : Int) : Option α := if 0 ≤ i then xs[i.toNat]? else none
theorem W8 {α : Type} {xs : List α} {i : Int} {x : α} (h : Zb xs i = some x) : 0 ≤ i ∧ i.toNat < xs.length ∧ xs[i.toNat]? = some x := by
 unfold Zb at h; split at h
 ·refine ⟨‹_›, ?_, h⟩
  rcases Nat.lt_or_ge i.toNat xs.length with h' | h'
  ·exact h'
  ·rw [List.getElem?_eq_none h'] at h; cases h
 ·cases h
theorem Xa {α : Type} {xs : List α} {k : Nat} (h : k < xs.length) : Zb xs (k : Int) = some xs[k] := by
 unfold Zb; rw [if_pos (by omega), Int.toNat_natCast, List.getElem?_eq_getElem h]
theorem gAt_ok {α : Type} {xs : List α} {i : Int} (h0 : 0 ≤ i) (h : i.toNat < xs.length) : Zb xs i = some xs[i.toNat] := by
 unfold Zb; rw [if_pos h0, List.getElem?_eq_getElem h]
def gSet {α : Type} (xs : List α) (i : Int) (x : α) : Option (List α) := if 0 ≤ i ∧ i.toNat < xs.length then some (xs.set i.toNat x) else none
theorem gSet_some {α : Type} {xs ys : List α} {i : Int} {x : α} (h : gSet xs i x = some ys) : 0 ≤ i ∧ i.toNat < xs.length ∧ ys = xs.set i.toNat x := by
 unfold gSet at h; split at h
 ·cases h; exact ⟨‹_ ∧ _›.1, ‹_ ∧ _›.2, rfl⟩
 ·cases h
theorem Jhr {α : Type} {xs : List α} {i : Int} {x : α} (h0 : 0 ≤ i) (h : i.toNat < xs.length) : gSet xs i x = some (xs.set i.toNat x) := if_pos ⟨h0, h⟩
theorem gSet_n {α : Type} {n : Nat} {xs ys : List α} {i : Int} {x : α} (hn : n = xs.length) (h : gSet xs i x = some ys) : n = ys.length := by
 obtain ⟨_, _, rfl⟩ := gSet_some h; rw [List.length_set]; exact hn
def Qp {α : Type} (xs : List α) (l h : Int) : Option (List α) := if 0 ≤ l ∧ l ≤ h ∧ h ≤ xs.length then some ((xs.drop l.toNat).take (h.toNat - l.toNat)) else none
theorem V2 {α : Type} {xs ys : List α} {l h : Int} (e : Qp xs l h = some ys) : 0 ≤ l ∧ l ≤ h ∧ h ≤ xs.length ∧ ys = (xs.drop l.toNat).take (h.toNat - l.toNat) := by
 unfold Qp at e; split at e
 ·cases e; rename_i h; exact ⟨h.1, h.2.1, h.2.2, rfl⟩
 ·cases e
theorem Jc0 {α : Type} {xs : List α} {l h : Int} (h0 : 0 ≤ l ∧ l ≤ h ∧ h ≤ xs.length) : Qp xs l h = some ((xs.drop l.toNat).take (h.toNat - l.toNat)) := if_pos h0
theorem Jb6 {α : Type} {xs : List α} {h : Int} (h0 : 0 ≤ h ∧ h ≤ xs.length) : Qp xs 0 h = some (xs.take h.toNat) := by rw [Jc0 ⟨by omega, h0⟩]; simp
theorem Ja0 {α : Type} {xs : List α} {l : Int} (h0 : 0 ≤ l ∧ l ≤ xs.length) : Qp xs l xs.length = some (xs.drop l.toNat) := by
 rw [Jc0 ⟨h0.1, h0.2, by omega⟩, List.take_of_length_le (by simp)]
def gOct (s : List UInt8) (i : Int) : Option Int := if 0 ≤ i then (s[i.toNat]?).map fun c => (c.toNat : Int) else none
theorem gOct_some {s : List UInt8} {i c : Int} (h : gOct s i = some c) : 0 ≤ i ∧ i < s.length ∧ c = ((s.getD i.toNat 0).toNat : Nat) := by
 unfold gOct at h; split at h
 ·rename_i h0
  rcases Nat.lt_or_ge i.toNat s.length with h' | h'
  ·rw [List.getElem?_eq_getElem h'] at h
   simp only [Option.map_some, Option.some.injEq] at h
   refine ⟨h0, by omega, ?_⟩
   rw [← h, List.getD_eq_getElem?_getD, List.getElem?_eq_getElem h']; rfl
  ·rw [List.getElem?_eq_none h'] at h; cases h
 ·cases h
theorem Jau {s : List UInt8} {k : Nat} (h : k < s.length) : gOct s (k : Int) = some (s[k].toNat : Int) := by
 unfold gOct; rw [if_pos (by omega), Int.toNat_natCast, List.getElem?_eq_getElem h]; rfl
def Zo (a b : List UInt8) : Option (List UInt8) := if a.length + b.length ≤ 9223372036854775807 then some (a ++ b) else none
theorem gCat_some {a b c : List UInt8} (h : Zo a b = some c) : c = a ++ b ∧ a.length + b.length ≤ 9223372036854775807 := by
 unfold Zo at h; split at h
 ·cases h; exact ⟨rfl, ‹_›⟩
 ·cases h
theorem Z6 {a b : List UInt8} (h : a.length + b.length ≤ 9223372036854775807) : Zo a b = some (a ++ b) := if_pos h
def Wb {α : Type} (by_ : Nat) (xs ys : List α) : Option (List α) := if xs.length + ys.length ≤ 140737488355328 ∧ (xs.length + ys.length) * by_ ≤ 140737488355328 then some (xs ++ ys) else none
theorem Ja5 {α : Type} {by_ : Nat} {xs ys zs : List α} (h : Wb by_ xs ys = some zs) : zs = xs ++ ys ∧ xs.length + ys.length ≤ 140737488355328 ∧ (xs.length + ys.length) * by_ ≤ 140737488355328 := by
 unfold Wb at h; split at h
 ·cases h; exact ⟨rfl, ‹_›⟩
 ·cases h
theorem Yw {α : Type} {by_ : Nat} {xs ys : List α} (h : xs.length + ys.length ≤ 140737488355328 ∧ (xs.length + ys.length) * by_ ≤ 140737488355328) : Wb by_ xs ys = some (xs ++ ys) := if_pos h
def X2 (s : List UInt8) : List Int := s.map fun c => (c.toNat : Int)
def Ja7 (xs : List Int) : List UInt8 := xs.map fun x => UInt8.ofNat x.toNat
def gMake {α : Type} (by_ : Nat) (n : Int) (z : α) : Option (List α) := if 0 ≤ n ∧ n ≤ 140737488355328 ∧ by_ * n.toNat ≤ 140737488355328 then some (List.replicate n.toNat z) else none
theorem gMake_some {α : Type} {by_ : Nat} {n : Int} {z : α} {zs : List α} (h : gMake by_ n z = some zs) : 0 ≤ n ∧ n ≤ 140737488355328 ∧ by_ * n.toNat ≤ 140737488355328 ∧ zs = List.replicate n.toNat z := by
 unfold gMake at h; split at h
 ·cases h; rename_i h; exact ⟨h.1, h.2.1, h.2.2, rfl⟩
 ·cases h
theorem gMake_ok {α : Type} {by_ : Nat} {n : Int} {z : α} (h : 0 ≤ n ∧ n ≤ 140737488355328 ∧ by_ * n.toNat ≤ 140737488355328) : gMake by_ n z = some (List.replicate n.toNat z) := if_pos h
def wU8 (x : Int) : Int := x % 256
def wU64 (x : Int) : Int := x % 18446744073709551616
def wI32 (x : Int) : Int := if 2147483648 ≤ x % 4294967296 then x % 4294967296 - 4294967296 else x % 4294967296
def Jap (x : Int) : Int := if 9223372036854775808 ≤ x % 18446744073709551616 then x % 18446744073709551616 - 18446744073709551616 else x % 18446744073709551616
theorem wI64_in {x : Int} (h : -9223372036854775808 ≤ x ∧ x ≤ 9223372036854775807) : Jap x = x := by unfold Jap; split <;> omega
theorem wU64_in {x : Int} (h : 0 ≤ x ∧ x ≤ 18446744073709551615) : wU64 x = x := by unfold wU64; omega
def gK (lo hi x : Int) : Option Int := if lo ≤ x ∧ x ≤ hi then some x else none
theorem gK_some {lo hi x y : Int} (h : gK lo hi x = some y) : y = x ∧ lo ≤ x ∧ x ≤ hi := by
 unfold gK at h; split at h
 ·cases h; exact ⟨rfl, ‹_›⟩
 ·cases h
def gShl (x y : Int) : Option Int := if 0 ≤ y ∧ y < 64 then gI (x * 2 ^ y.toNat) else none
theorem gShl_some {x y z : Int} (h : gShl x y = some z) : 0 ≤ y ∧ y < 64 ∧ z = x * 2 ^ y.toNat ∧ -9223372036854775808 ≤ x * 2 ^ y.toNat ∧ x * 2 ^ y.toNat ≤ 9223372036854775807 := by
 unfold gShl at h; split at h
 ·rename_i h0; obtain ⟨h1, h2⟩ := Jf6 h; exact ⟨h0.1, h0.2, h1, h2⟩
 ·cases h
def gShr (bits : Nat) (x y : Int) : Option Int := if 0 ≤ y then some (x / 2 ^ min y.toNat bits) else none
def bOr (bits : Nat) (x y : Int) : Int := ((BitVec.ofInt bits x ||| BitVec.ofInt bits y).toNat : Int)
end Go.Md

namespace Go.Md
open Go
end Go.Md

namespace Go.Md
end Go.Md

namespace Go.Md
def Vn {α : Type} (xs : List α) (a : Int) (m : Nat) (ys : List α) : List α := xs.take a.toNat ++ (ys.take m ++ xs.drop (a.toNat + min m ys.length))
theorem Ji3 {α : Type} {xs ys : List α} {a : Int} {m : Nat} (h : a.toNat + m ≤ xs.length) : (Vn xs a m ys).length = xs.length := by
 unfold Vn
 simp only [List.length_append, List.length_take, List.length_drop]; omega
theorem cpyL_n {α : Type} {n : Nat} {xs ts ys : List α} {a q : Int} (hn : n = xs.length) (h : Qp xs a q = some ts) : n = (Vn xs a ts.length ys).length := by
 obtain ⟨h0, h1, h2, rfl⟩ := V2 h
 rw [Ji3]
 ·exact hn
 ·rw [List.length_take, List.length_drop]; omega
def gFn {μ : Type} (m : Option μ) : Option μ := m
theorem gFn_some {μ : Type} {m : Option μ} {g : μ} (h : gFn m = some g) : m = some g := h
end Go.Md

namespace Go.Md
end Go.Md

namespace Go.Md
def ixB : List UInt8 → UInt8 → Int
 | [], _ => -1
 | b :: l, c => if b = c then 0 else if ixB l c = -1 then -1 else ixB l c + 1
def gIxB (s : List UInt8) (c : Int) : Option Int := some (ixB s c.toNat.toUInt8)
def decD (u : Nat) : List UInt8 :=
 if u < 10 then [UInt8.ofNat (48 + u)] else decD (u / 10) ++ [UInt8.ofNat (48 + u % 10)]
termination_by u
decreasing_by omega
def itoaL (n : Int) : List UInt8 := if n < 0 then 45 :: decD n.natAbs else decD n.toNat
def gItoa (n : Int) : Option (List UInt8) := if -9223372036854775808 ≤ n ∧ n ≤ 9223372036854775807 then some (itoaL n) else none
def gRep (s : List UInt8) (n : Int) : Option (List UInt8) := if 0 ≤ n ∧ n ≤ 9223372036854775807 ∧ s.length * n.toNat ≤ 140737488355328 then some (List.replicate n.toNat s).flatten else none
def gJoin (l : List (List UInt8)) (sep : List UInt8) : Option (List UInt8) := if l.length ≤ 140737488355328 ∧ (sep.intercalate l).length ≤ 140737488355328 then some (sep.intercalate l) else none
end Go.Md

namespace Go.Md
def gByt (s : List UInt8) : Option (List Int) := if s.length ≤ 9223372036854775807 then some (X2 s) else none
theorem gByt_some {s : List UInt8} {r : List Int} (h : gByt s = some r) : r = X2 s ∧ s.length ≤ 9223372036854775807 := by
 unfold gByt at h; split at h
 ·cases h; exact ⟨rfl, by assumption⟩
 ·cases h
theorem gByt_ok {s : List UInt8} (h : s.length ≤ 9223372036854775807) : gByt s = some (X2 s) := if_pos h
end Go.Md

namespace Go.Md
section
variable {κ ν : Type} [DecidableEq κ]
def Q2 (xs : List (κ × ν)) (k : κ) : Option ν := (xs.find? fun p => decide (p.1 = k)).map (·.2)
def mHas (xs : List (κ × ν)) (k : κ) : Bool := xs.any fun p => decide (p.1 = k)
def Yp (xs : List (κ × ν)) (k : κ) (v : ν) : List (κ × ν) := if mHas xs k then xs.map (fun p => if p.1 = k then (k, v) else p) else xs ++ [(k, v)]
end
structure Pick {α : Type} (l : List α) (p : α) (l' : List α) : Prop where
 out : ∃ i, l[i]? = some p ∧ l' = l.eraseIdx i
theorem Pick.len {α : Type} {l l' : List α} {p : α} (h : Pick l p l') : l'.length + 1 = l.length := by
 obtain ⟨i, h1, rfl⟩ := h.out
 have hi : i < l.length := by
  rcases Nat.lt_or_ge i l.length with h | h
  ·exact h
  ·rw [List.getElem?_eq_none h] at h1; cases h1
 rw [List.length_eraseIdx_of_lt hi]; omega
end Go.Md

namespace Go.Md
structure CmpOk {α : Type} (cmp : α → α → Option Int) : Prop where
 tot : ∀ x y, ∃ v, cmp x y = some v
 flip : ∀ x y, (cmp x y).getD 0 < 0 ↔ 0 < (cmp y x).getD 0
 trans : ∀ x y z, (cmp x y).getD 0 ≤ 0 → (cmp y z).getD 0 ≤ 0 → (cmp x z).getD 0 ≤ 0
 anti : ∀ x y, (cmp x y).getD 0 = 0 → x = y
def leC {α : Type} (cmp : α → α → Option Int) (x y : α) : Bool := decide ((cmp x y).getD 0 ≤ 0)
open Classical in
noncomputable def Jdv {α : Type} (l : List α) (cmp : α → α → Option Int) : Option (List α) := if l.length < 4611686018427387904 ∧ CmpOk cmp then some (l.mergeSort (leC cmp)) else none
theorem Jge {α : Type} {le : α → α → Bool} (anti : ∀ x y, le x y = true → le y x = true → x = y) : ∀ {a b : List α}, a.Perm b → a.Pairwise (fun x y => le x y = true) → b.Pairwise (fun x y => le x y = true) → (∀ x, le x x = true) → a = b
 | [], b, p, _, _, _ => (List.nil_perm.1 p).symm
 | x :: a, [], p, _, _, _ => by have := p.length_eq; simp at this
 | x :: a, y :: b, p, ha, hb, hr => by
  have hxy : x = y := by
   have h1 : x ∈ y :: b := p.mem_iff.1 (by simp)
   have h2 : y ∈ x :: a := p.mem_iff.2 (by simp)
   refine anti x y ?_ ?_
   ·rcases List.mem_cons.1 h2 with h | h
    ·rw [h]; exact hr x
    ·exact (List.pairwise_cons.1 ha).1 y h
   ·rcases List.mem_cons.1 h1 with h | h
    ·rw [h]; exact hr y
    ·exact (List.pairwise_cons.1 hb).1 x h
  subst hxy
  rw [Jge anti ((List.perm_cons x).1 p) (List.pairwise_cons.1 ha).2 (List.pairwise_cons.1 hb).2 hr]
section
variable {α : Type} {cmp : α → α → Option Int}
theorem CmpOk.refl (c : CmpOk cmp) (x : α) : leC cmp x x = true := by
 have := c.flip x x
 unfold leC; simp; omega
theorem CmpOk.total (c : CmpOk cmp) (x y : α) : (leC cmp x y || leC cmp y x) = true := by
 have := c.flip x y
 have h2 := c.flip y x
 unfold leC; simp; omega
theorem CmpOk.antisymm (c : CmpOk cmp) (x y : α) (h1 : leC cmp x y = true) (h2 : leC cmp y x = true) : x = y := by
 have f1 := c.flip x y
 have f2 := c.flip y x
 unfold leC at h1 h2
 simp at h1 h2
 exact c.anti x y (by omega)
theorem CmpOk.letrans (c : CmpOk cmp) (x y z : α) (h1 : leC cmp x y = true) (h2 : leC cmp y z = true) : leC cmp x z = true := by
 unfold leC at *
 simp at *
 exact c.trans x y z h1 h2
theorem sortF_is (c : CmpOk cmp) {l d : List α} (p : d.Perm l) (h : d.Pairwise fun x y => leC cmp x y = true) : d = l.mergeSort (leC cmp) :=
 Jge c.antisymm (p.trans (List.mergeSort_perm l _).symm) h (List.pairwise_mergeSort (le := leC cmp) c.letrans c.total l) c.refl
end
end Go.Md

namespace Go.Md
end Go.Md

namespace Go.Md
structure CmpPre {α : Type} (cmp : α → α → Option Int) : Prop where
 tot : ∀ x y, ∃ v, cmp x y = some v
 flip : ∀ x y, (cmp x y).getD 0 < 0 ↔ 0 < (cmp y x).getD 0
 trans : ∀ x y z, (cmp x y).getD 0 ≤ 0 → (cmp y z).getD 0 ≤ 0 → (cmp x z).getD 0 ≤ 0
section
variable {α : Type} {cmp : α → α → Option Int}
theorem CmpPre.total (c : CmpPre cmp) (x y : α) : (leC cmp x y || leC cmp y x) = true := by
 have := c.flip x y
 have h2 := c.flip y x
 unfold leC; simp; omega
theorem CmpPre.letrans (c : CmpPre cmp) (x y z : α) (h1 : leC cmp x y = true) (h2 : leC cmp y z = true) : leC cmp x z = true := by
 unfold leC at *
 simp at *
 exact c.trans x y z h1 h2
end
end Go.Md

namespace Go.Md
structure SortOf {α : Type} (cmp : α → α → Option Int) (l d : List α) : Prop where
 perm : d.Perm l
 sorted : d.Pairwise fun x y => leC cmp x y = true
open Classical in
noncomputable def Jgt {α ρ : Type} (l : List α) (cmp : α → α → Option Int) (k : List α → Option ρ) : Option ρ :=
 if h : (l.length < 4611686018427387904 ∧ CmpPre cmp) ∧ ∃ r, ∀ d, SortOf cmp l d → k d = some r then some h.2.choose else none
section
variable {α ρ : Type} {cmp : α → α → Option Int} {l : List α} {k : List α → Option ρ} {r : ρ}
theorem gSortA_some (h : Jgt l cmp k = some r) : l.length < 4611686018427387904 ∧ CmpPre cmp ∧ ∀ d, SortOf cmp l d → k d = some r := by
 unfold Jgt at h
 split at h
 ·rename_i hh
  cases h
  exact ⟨hh.1.1, hh.1.2, hh.2.choose_spec⟩
 ·cases h
theorem Jgz (c : CmpPre cmp) (l : List α) : SortOf cmp l (l.mergeSort (leC cmp)) :=
 ⟨List.mergeSort_perm l _, List.pairwise_mergeSort (le := leC cmp) c.letrans c.total l⟩
theorem gSortA_ok (hl : l.length < 4611686018427387904) (c : CmpPre cmp) (h : ∀ d, SortOf cmp l d → k d = some r) : Jgt l cmp k = some r := by
 have hh : (l.length < 4611686018427387904 ∧ CmpPre cmp) ∧ ∃ r, ∀ d, SortOf cmp l d → k d = some r := ⟨⟨hl, c⟩, r, h⟩
 unfold Jgt
 rw [dif_pos hh]
 have h1 := hh.2.choose_spec _ (Jgz c l)
 rw [h _ (Jgz c l)] at h1
 exact h1.symm
end
end Go.Md

namespace Go.M
open Go.Md
noncomputable section
set_option maxRecDepth 100000
structure Tg where
 Num : Int
 Den : Int
instance : Inhabited Tg := ⟨⟨0, 0⟩⟩
mutual
structure Te where
 kai : Int
 kaj : (List UInt8)
 kak : (List Int)
 kah : (List Tg)
 kag : (List Ta)
structure Ta where
 Tag : Int
 Value : Te
end
instance : Inhabited Te := ⟨⟨0, [], [], [], []⟩⟩
instance : Inhabited Ta := ⟨⟨0, ⟨0, [], [], [], []⟩⟩⟩
structure Th where
 Big : Bool
 kap : (List (List Ta))
instance : Inhabited Th := ⟨⟨false, []⟩⟩
structure Tc where
 From : Int
 To : Int
instance : Inhabited Tc := ⟨⟨0, 0⟩⟩
structure Tb where
 s_ : (List UInt8)
 kab : Bool
 kaa : (List Tc)
 kae : (List (Int × Bool))
 kad : Int
 kac : Nat
 no_ : Int
instance : Inhabited Tb := ⟨⟨[], false, [], [], 0, 0, 0⟩⟩
structure Tj where
 kab : Bool
 kao : (List Int)
instance : Inhabited Tj := ⟨⟨false, []⟩⟩
structure Td where
 kal : Int
 kan : Int
 to_ : Int
instance : Inhabited Td := ⟨⟨0, 0, 0⟩⟩
structure Tf where
 s_ : (List UInt8)
 kab : Bool
 kam : (List (Int × Bool))
 kaa : (List Tc)
 kaf : (List ((List UInt8) × Td))
instance : Inhabited Tf := ⟨⟨[], false, [], [], []⟩⟩
structure Ti where
 s_ : (List UInt8)
 kab : Bool
instance : Inhabited Ti := ⟨⟨[], false⟩⟩
def Jgu (a0 : (List Int)) (a1 : Int) : Option (Unit) :=
 some ()
def mft39 : Nat → (Option ((List Int) → Int → Option (Unit)))
 | 0 => some Jgu
 | _ => none
def Xe (a0 : (List Ta)) (a1 : Int) (a2 : (Ta → Int → Option (Int))) (x9 : Int) : Option (Int × Bool) :=
 Qe (decide (x9 < (a0.length : Int))) (Js (Zb a0 x9) fun t43 =>
 Js (a2 t43 a1) fun t46 =>
 some (x9, (decide (t46 = 0)))) (some (x9, false))
def Qz (a0 : (List Ta)) (a1 : Int) (a2 : (Ta → Int → Option (Int))) (next2 : ((Int × Int) → Option (Int × Bool))) (x9_3 : Int) (x10_2 : Int) : Option (Int × Bool) :=
 Qe (decide (x9_3 < x10_2)) (Js (gI (x9_3 + x10_2)) fun t20 =>
 Js (gShr 64 (wU64 t20) 1) fun t22 =>
 Js (Zb a0 (Jap t22)) fun t27 =>
 Js (a2 t27 a1) fun t30 =>
 Qe (decide (t30 < 0)) (Js (gI ((Jap t22) + 1)) fun t33 =>
 next2 (t33, x10_2)) (next2 (x9_3, (Jap t22)))) (Xe a0 a1 a2 x9_3)
def Yc (a0 : (List Ta)) (a1 : Int) (a2 : (Ta → Int → Option (Int))) : Option (Int × Bool) :=
 Vv (fun next2 s => Qz a0 a1 a2 next2 s.1 s.2) (0, (a0.length : Int))
def Jdp (a0 : Ta) (a1 : Int) : Option (Int) :=
 Qe (decide (a0.Tag < a1)) (some (-1)) (Qe (decide (a1 < a0.Tag)) (some 1) (some 0))
def Jd3 (a0 : (List Ta)) (a1 : Int) : Option (Int × Bool) :=
 Js (Yc a0 a1 Jdp) fun t8 =>
 some (t8.1, t8.2)
def Uw (a0 : Int) (a1 : Int) (a2 : Int) : Option (Bool) :=
 Qe (decide (a0 < a1)) (some true) (some (decide (a2 < a0)))
def Jai (a0 : Int) (x4 : Bool) : Option (Int) :=
 Qe x4 (some 1) (Qe (decide (a0 = 3)) (some 2) (Qe (decide (a0 = 4)) (Qe (decide (a0 = 4)) (some 4) (Qe (decide (a0 = 5)) (some 8) (some 0))) (Qe (decide (a0 = 9)) (some 4) (Qe (decide (a0 = 5)) (some 8) (some 0)))))
def Z4 (a0 : Int) : Option (Int) :=
 Qe (decide (a0 = 1)) (Jai a0 (decide (a0 = 1))) (Qe (decide (a0 = 2)) (Jai a0 (decide (a0 = 2))) (Qe (decide (a0 = 7)) (Jai a0 (decide (a0 = 7))) (Jai a0 (decide (a0 = 13)))))
def Jeh (a0 : Int) : Option (Bool) :=
 Qe (decide (a0 = 1)) (some true) (Qe (decide (a0 = 3)) (some true) (Qe (decide (a0 = 4)) (some true) (some (decide (a0 = 9)))))
def Jej (a0 : Int) : Option (Bool) :=
 Qe (decide (a0 = 2)) (some true) (some (decide (a0 = 7)))
def Ws (a0 : Te) (x8_3 : Bool) : Option (Int) :=
 Qe x8_3 (Qe x8_3 (some 1) (some 0)) (Qe (decide (a0.kai ≠ 13)) (Qe (decide (0 < (a0.kag.length : Int))) (some 1) (some 0)) (some 0))
def Wt (a0 : Te) (x8_2 : Bool) : Option (Int) :=
 Qe x8_2 (Qe x8_2 (some 1) (some 0)) (Qe (decide (a0.kai ≠ 5)) (Ws a0 (decide (0 < (a0.kah.length : Int)))) (Ws a0 false))
def Wr (a0 : Te) (x8 : Bool) : Option (Int) :=
 Qe x8 (Qe x8 (some 1) (some 0)) (Js (Jej a0.kai) fun t21 =>
 Qe (!t21) (Wt a0 (decide (a0.kaj ≠ []))) (Wt a0 false))
def W3 (a0 : Te) : Option (Int) :=
 Js (Z4 a0.kai) fun t6 =>
 Qe (decide (t6 = 0)) (some 10) (Js (Jeh a0.kai) fun t11 =>
 Qe (!t11) (Wr a0 (decide (0 < (a0.kak.length : Int)))) (Wr a0 false))
def Jet (a0 : Int) : Option (Int × Int) :=
 Qe (decide (a0 = 1)) (some (0, 255)) (Qe (decide (a0 = 3)) (some (0, 65535)) (Qe (decide (a0 = 9)) (some ((-2147483648), 2147483647)) (some (0, 4294967295))))
def Zj (a0 : Te) (next3 : ((Int) → Option (Int))) (x56_2 : Int) : Option (Int) :=
 Qe (decide (x56_2 < (a0.kaj.length : Int))) (Js (gOct a0.kaj x56_2) fun t62 =>
 Qe (decide (t62 = 0)) (some 9) (Js (gI (x56_2 + 1)) fun t64 =>
 next3 t64)) (some 0)
def Uh (a0 : Te) : Option (Int) :=
 Qe (decide (a0.kai = 2)) (Vv (fun next3 s => Zj a0 next3 s) 0) (some 0)
def Yr (a0 : Te) (next4 : ((Int) → Option (Int))) (x37_2 : Int) : Option (Int) :=
 Qe (decide (x37_2 < (a0.kah.length : Int))) (Js (Zb a0.kah x37_2) fun t39 =>
 Js (Uw t39.Num 0 4294967295) fun t43 =>
 Qe t43 (some 2) (Js (Uw t39.Den 0 4294967295) fun t47 =>
 Qe t47 (some 2) (Js (gI (x37_2 + 1)) fun t49 =>
 next4 t49))) (Uh a0)
def W9 (a0 : Te) : Option (Int) :=
 Vv (fun next4 s => Yr a0 next4 s) 0
def Yu (a0 : Te) (t19 : (Int × Int)) (next5 : ((Int) → Option (Int))) (x25_2 : Int) : Option (Int) :=
 Qe (decide (x25_2 < (a0.kak.length : Int))) (Js (Zb a0.kak x25_2) fun t27 =>
 Js (Uw t27 t19.1 t19.2) fun t32 =>
 Qe t32 (some 2) (Js (gI (x25_2 + 1)) fun t33 =>
 next5 t33)) (W9 a0)
def Jat (a0 : Te) : Option (Int) :=
 Js (W3 a0) fun t12 =>
 Qe (decide (t12 ≠ 0)) (some t12) (Js (Jet a0.kai) fun t19 =>
 Vv (fun next5 s => Yu a0 t19 next5 s) 0)
def W5 (x17_2 : Int) (next1 : ((Int) → Option (Int))) (x7 : Int) : Option (Int) :=
 Qe (decide (x7 ≠ 0)) (some x7) (Js (gI (x17_2 + 1)) fun t61 =>
 next1 t61)
def Jbl (a1 : Int) (self : ((List Ta) × Int) → Option (Int)) (x17_2 : Int) (next1 : ((Int) → Option (Int))) (t20 : Ta) : Option (Int) :=
 Qe (decide (t20.Value.kai ≠ 13)) (Js (Jat t20.Value) fun t46 =>
 W5 x17_2 next1 t46) (Js (W3 t20.Value) fun t49 =>
 Qe (decide (t49 = 0)) (Js (gI (a1 + 1)) fun t56 =>
 Js (self (t20.Value.kag, t56)) fun t57 =>
 W5 x17_2 next1 t57) (W5 x17_2 next1 t49))
def Jac (a0 : (List Ta)) (a1 : Int) (self : ((List Ta) × Int) → Option (Int)) (next1 : ((Int) → Option (Int))) (x17_2 : Int) : Option (Int) :=
 Qe (decide (x17_2 < (a0.length : Int))) (Js (Zb a0 x17_2) fun t20 =>
 Js (Uw t20.Tag 0 65535) fun t25 =>
 Qe t25 (some 2) (Qe (decide (0 < x17_2)) (Js (gI (x17_2 - 1)) fun t34 =>
 Js (Zb a0 t34) fun t35 =>
 Qe (decide (t20.Tag ≤ t35.Tag)) (some 5) (Jbl a1 self x17_2 next1 t20)) (Jbl a1 self x17_2 next1 t20))) (some 0)
def Zk (self : ((List Ta) × Int) → Option (Int)) (a0 : (List Ta)) (a1 : Int) : Option (Int) :=
 Qe (decide (5 < a1)) (some 4) (Qe (decide (200 < (a0.length : Int))) (some 4) (Vv (fun next1 s => Jac a0 a1 self next1 s) 0))
def Jbz (a0 : (List Ta)) (a1 : Int) : Option (Int) :=
 Vv (fun (self : ((List Ta) × Int) → Option (Int)) (s : (List Ta) × Int) => Zk self s.1 s.2) (a0, a1)
def Qu (a0 : Te) : Option (Int) :=
 Qe (decide (a0.kai = 2)) (Js (gI ((a0.kaj.length : Int) + 1)) fun t10 =>
 some t10) (Qe (decide (a0.kai = 7)) (some (a0.kaj.length : Int)) (Qe (decide (a0.kai = 5)) (some (a0.kah.length : Int)) (Qe (decide (a0.kai = 13)) (some 1) (some (a0.kak.length : Int)))))
def Wc (a0 : Te) : Option (Int) :=
 Js (Qu a0) fun t4 =>
 Js (Z4 a0.kai) fun t7 =>
 Js (gI (t4 * t7)) fun t8 =>
 some t8
def Jdn (a0 : Int) : Option (Int) :=
 Js (gRem a0 2) fun t5 =>
 Js (gI (a0 + t5)) fun t6 =>
 some t6
def Jah (x17_2 : Int) (next1 : ((Int × Int) → Option (Int))) (x1_3 : Int) : Option (Int) :=
 Js (gI (x17_2 + 1)) fun t42 =>
 next1 (x1_3, t42)
def Wi (a0 : (List Ta)) (self : ((List Ta) × Int) → Option (Int)) (next1 : ((Int × Int) → Option (Int))) (x1_2 : Int) (x17_2 : Int) : Option (Int) :=
 Qe (decide (x17_2 < (a0.length : Int))) (Js (Zb a0 x17_2) fun t19 =>
 Qe (decide (t19.Value.kai = 13)) (Js (self (t19.Value.kag, x1_2)) fun t30 =>
 Jah x17_2 next1 t30) (Js (Wc t19.Value) fun t34 =>
 Qe (decide (4 < t34)) (Js (Jdn x1_2) fun t37 =>
 Js (Wc t19.Value) fun t40 =>
 Js (gI (t37 + t40)) fun t41 =>
 Jah x17_2 next1 t41) (Jah x17_2 next1 x1_2))) (some x1_2)
def Vm (self : ((List Ta) × Int) → Option (Int)) (a0 : (List Ta)) (a1 : Int) : Option (Int) :=
 Js (Jdn a1) fun t8 =>
 Js (gI (t8 + 2)) fun t9 =>
 Js (gI (12 * (a0.length : Int))) fun t12 =>
 Js (gI (t9 + t12)) fun t13 =>
 Js (gI (t13 + 4)) fun t14 =>
 Vv (fun next1 s => Wi a0 self next1 s.1 s.2) (t14, 0)
def Jeg (a0 : (List Ta)) (a1 : Int) : Option (Int) :=
 Vv (fun (self : ((List Ta) × Int) → Option (Int)) (s : (List Ta) × Int) => Vm self s.1 s.2) (a0, a1)
def Ut (a0 : Th) (next1 : ((Int × Int) → Option (Int))) (x3_2 : Int) (x9_2 : Int) : Option (Int) :=
 Qe (decide (x9_2 < (a0.kap.length : Int))) (Js (Zb a0.kap x9_2) fun t11 =>
 Js (Jeg t11 x3_2) fun t15 =>
 Js (gI (x9_2 + 1)) fun t16 =>
 next1 (t15, t16)) (some x3_2)
def Jhg (a0 : Th) : Option (Int) :=
 Vv (fun next1 s => Ut a0 next1 s.1 s.2) (8, 0)
def Jek (a0 : Th) : Option (Int) :=
 Js (Jhg a0) fun t24 =>
 Qe (decide (65000 < t24)) (some 4) (some 0)
def Ub (a0 : Th) (next2 : ((Int) → Option (Int))) (x13_2 : Int) : Option (Int) :=
 Qe (decide (x13_2 < (a0.kap.length : Int))) (Js (Zb a0.kap x13_2) fun t15 =>
 Js (Jbz t15 1) fun t18 =>
 Qe (decide (t18 ≠ 0)) (some t18) (Js (gI (x13_2 + 1)) fun t22 =>
 next2 t22)) (Jek a0)
def Jak (a0 : Th) : Option (Int) :=
 Qe (decide (20 < (a0.kap.length : Int))) (some 4) (Vv (fun next2 s => Ub a0 next2 s) 0)
def Jb3 (a0 : Te) : Option (Int) :=
 Qe (decide (a0.kai ≠ 13)) (Js (Jat a0) fun t8 =>
 some t8) (Js (W3 a0) fun t10 =>
 Qe (decide (t10 ≠ 0)) (some t10) (Js (Jbz a0.kag 1) fun t16 =>
 some t16))
def Y5 (a0 : (List Int)) : Option ((List Int)) :=
 Js (Wb 8 ([] : List Int) a0) fun l7 =>
 some l7
def U8 (a0 : (List Tg)) : Option ((List Tg)) :=
 Js (Wb 16 ([] : List Tg) a0) fun l7 =>
 some l7
def U7 (a0 : (List UInt8)) : Option (Bool) :=
 Qe (decide ((a0.length : Int) < 8)) (some false) (Js (Qp a0 0 4) fun t7 =>
 Qe (decide (t7 = [73, 73, 42, 0])) (some true) (Js (Qp a0 0 4) fun t11 =>
 some (decide (t11 = [77, 77, 0, 42]))))
def Jab (a1 : (List UInt8)) (a2 : Int) (x9_2 : Int) (x13_2 : Int) (next1 : ((Int × Int) → Option (Int))) (x11 : Int) : Option (Int) :=
 Js (gShl x9_2 8) fun t23 =>
 Js (gI (a2 + x11)) fun t27 =>
 Js (gOct a1 t27) fun t28 =>
 Js (gK (-9223372036854775808) 9223372036854775807 t28) fun t29 =>
 Js (gI (x13_2 + 1)) fun t31 =>
 next1 ((Jap (bOr 64 t23 t29)), t31)
def Vk (a0 : Bool) (a1 : (List UInt8)) (a2 : Int) (a3 : Int) (next1 : ((Int × Int) → Option (Int))) (x9_2 : Int) (x13_2 : Int) : Option (Int) :=
 Qe (decide (x13_2 < a3)) (Js (gI (a3 - 1)) fun t17 =>
 Js (gI (t17 - x13_2)) fun t19 =>
 Qe a0 (Jab a1 a2 x9_2 x13_2 next1 x13_2) (Jab a1 a2 x9_2 x13_2 next1 t19)) (some x9_2)
def Yb (a0 : Bool) (a1 : (List UInt8)) (a2 : Int) (a3 : Int) : Option (Int) :=
 Vv (fun next1 s => Vk a0 a1 a2 a3 next1 s.1 s.2) (0, 0)
def Ji (a0 : Tb) (a1 : Int) (a2 : Int) : Option (Int) :=
 Js (Yb a0.kab a0.s_ a1 a2) fun t17 =>
 some t17
def Y6 (a0 : Tb) (a1 : Int) (a2 : Int) : Option (Bool) :=
 Qe (decide (8 ≤ a1)) (Qe (decide (a2 ≤ (a0.s_.length : Int))) (Js (gI ((a0.s_.length : Int) - a2)) fun t26 =>
 some (decide (a1 ≤ t26))) (some false)) (some false)
def Qc (a0 : Tb) (a1 : Int) : Option (Tb) :=
 Qe (decide (a0.no_ = 0)) (some (⟨a0.s_, a0.kab, a0.kaa, a0.kae, a0.kad, a0.kac, a1⟩ : Tb)) (some a0)
def Vg (x25_2 : Int) (next1 : ((Int × (List UInt8) × Bool × Int × Nat × Int × (List Tc) × (List (Int × Bool))) → Option ((List UInt8) × Tb))) (m_11 : (List UInt8)) (m_12 : Bool) (m_13 : Int) (m_14 : Nat) (m_15 : Int) (l_3 : (List Tc)) (mp_3 : (List (Int × Bool))) : Option ((List UInt8) × Tb) :=
 Js (gI (x25_2 + 1)) fun t34 =>
 next1 (t34, m_11, m_12, m_13, m_14, m_15, l_3, mp_3)
def Xi (t22 : (List UInt8)) (next1 : ((Int × (List UInt8) × Bool × Int × Nat × Int × (List Tc) × (List (Int × Bool))) → Option ((List UInt8) × Tb))) (x25_2 : Int) (m_6 : (List UInt8)) (m_7 : Bool) (m_8 : Int) (m_9 : Nat) (m_10 : Int) (l_2 : (List Tc)) (mp_2 : (List (Int × Bool))) : Option ((List UInt8) × Tb) :=
 Qe (decide (x25_2 < (t22.length : Int))) (Js (gOct t22 x25_2) fun t30 =>
 Qe (decide (t30 = 0)) (Js (Qc (⟨m_6, m_7, l_2, mp_2, m_8, m_9, m_10⟩ : Tb) 9) fun t33 =>
 Vg x25_2 next1 t33.s_ t33.kab t33.kad t33.kac t33.no_ t33.kaa t33.kae) (Vg x25_2 next1 m_6 m_7 m_8 m_9 m_10 l_2 mp_2)) (some (t22, (⟨m_6, m_7, l_2, mp_2, m_8, m_9, m_10⟩ : Tb)))
def Uq (a0 : Tb) (a1 : (List UInt8)) : Option ((List UInt8) × Tb) :=
 Qe (decide (a1 = [])) (Js (Qc a0 1) fun t17 =>
 some ([], t17)) (Js (gI ((a1.length : Int) - 1)) fun t12 =>
 Js (gOct a1 t12) fun t13 =>
 Qe (decide (t13 ≠ 0)) (Js (Qc a0 1) fun t17_2 =>
 some ([], t17_2)) (Js (gI ((a1.length : Int) - 1)) fun t21 =>
 Js (Qp a1 0 t21) fun t22 =>
 Vv (fun next1 s => Xi t22 next1 s.1 s.2.1 s.2.2.1 s.2.2.2.1 s.2.2.2.2.1 s.2.2.2.2.2.1 s.2.2.2.2.2.2.1 s.2.2.2.2.2.2.2) (0, a0.s_, a0.kab, a0.kad, a0.kac, a0.no_, a0.kaa, a0.kae)))
def Vb (a1 : Int) (m : (List UInt8)) (m_2 : Bool) (m_3 : Int) (m_4 : Nat) (m_5 : Int) (l_2 : (List Tc)) (mp : (List (Int × Bool))) (m_6 : (List UInt8)) (l_3 : (List Int)) (l_4 : (List Tg)) : Option (Te × Tb) :=
 some ((⟨a1, m_6, l_3, l_4, ([] : List Ta)⟩ : Te), (⟨m, m_2, l_2, mp, m_3, m_4, m_5⟩ : Tb))
def X5 (a0 : Tb) (a1 : Int) (a2 : Int) (x10 : Int) (l : (List Tc)) (next3 : ((Int × (List Tg)) → Option (Te × Tb))) (x107_2 : Int) (l_6 : (List Tg)) : Option (Te × Tb) :=
 Qe (decide (x107_2 < a2)) (Js (gI (8 * x107_2)) fun t115 =>
 Js (gI (x10 + t115)) fun t116 =>
 Js (Ji (⟨a0.s_, a0.kab, l, a0.kae, a0.kad, a0.kac, a0.no_⟩ : Tb) t116 4) fun t117 =>
 Js (gI (8 * x107_2)) fun t121 =>
 Js (gI (x10 + t121)) fun t122 =>
 Js (gI (t122 + 4)) fun t123 =>
 Js (Ji (⟨a0.s_, a0.kab, l, a0.kae, a0.kad, a0.kac, a0.no_⟩ : Tb) t123 4) fun t124 =>
 Js (Wb 16 l_6 ([(⟨t117, t124⟩ : Tg)] : List Tg)) fun l127 =>
 Js (gI (x107_2 + 1)) fun t129 =>
 next3 (t129, l127)) (Vb a1 a0.s_ a0.kab a0.kad a0.kac a0.no_ l a0.kae [] ([] : List Int) l_6)
def Vi (x50_2 : Int) (l_8 : (List Int)) (next4 : ((Int × (List Int)) → Option (Te × Tb))) (x14 : Int) : Option (Te × Tb) :=
 Js (Wb 8 l_8 ([x14] : List Int)) fun l72 =>
 Js (gI (x50_2 + 1)) fun t74 =>
 next4 (t74, l72)
def X6 (a0 : Tb) (a1 : Int) (a2 : Int) (x10 : Int) (l : (List Tc)) (next4 : ((Int × (List Int)) → Option (Te × Tb))) (x50_2 : Int) (l_8 : (List Int)) : Option (Te × Tb) :=
 Qe (decide (x50_2 < a2)) (Js (Z4 a1) fun t57 =>
 Js (gI (x50_2 * t57)) fun t58 =>
 Js (gI (x10 + t58)) fun t59 =>
 Js (Z4 a1) fun t61 =>
 Js (Ji (⟨a0.s_, a0.kab, l, a0.kae, a0.kad, a0.kac, a0.no_⟩ : Tb) t59 t61) fun t62 =>
 Qe (decide (a1 = 9)) (Vi x50_2 l_8 next4 (Jap (wI32 t62))) (Vi x50_2 l_8 next4 t62)) (Vb a1 a0.s_ a0.kab a0.kad a0.kac a0.no_ l a0.kae [] l_8 ([] : List Tg))
def Ve (a0 : Tb) (a1 : Int) (a2 : Int) (t18 : Int) (x10 : Int) (l : (List Tc)) : Option (Te × Tb) :=
 Qe (decide (a1 = 2)) (Js (gI (x10 + t18)) fun t86 =>
 Js (Qp a0.s_ x10 t86) fun t87 =>
 Js (Uq (⟨a0.s_, a0.kab, l, a0.kae, a0.kad, a0.kac, a0.no_⟩ : Tb) t87) fun t88 =>
 Vb a1 t88.2.s_ t88.2.kab t88.2.kad t88.2.kac t88.2.no_ t88.2.kaa t88.2.kae t88.1 ([] : List Int) ([] : List Tg)) (Qe (decide (a1 = 7)) (Js (gI (x10 + t18)) fun t100 =>
 Js (Qp a0.s_ x10 t100) fun t101 =>
 Vb a1 a0.s_ a0.kab a0.kad a0.kac a0.no_ l a0.kae t101 ([] : List Int) ([] : List Tg)) (Qe (decide (a1 = 5)) (Vv (fun next3 s => X5 a0 a1 a2 x10 l next3 s.1 s.2) (0, ([] : List Tg))) (Vv (fun next4 s => X6 a0 a1 a2 x10 l next4 s.1 s.2) (0, ([] : List Int)))))
def Wl (a0 : Tb) (a1 : Int) (a2 : Int) (a3 : Int) : Option (Te × Tb) :=
 Js (Z4 a1) fun t17 =>
 Js (gI (a2 * t17)) fun t18 =>
 Qe (decide (4 < t18)) (Js (Ji a0 a3 4) fun t24 =>
 Js (Y6 a0 t24 t18) fun t28 =>
 Qe (!t28) (Js (Qc a0 2) fun t31 =>
 some ((⟨0, [], ([] : List Int), ([] : List Tg), ([] : List Ta)⟩ : Te), t31)) (Js (gI (t24 + t18)) fun t41 =>
 Js (Wb 16 a0.kaa ([(⟨t24, t41⟩ : Tc)] : List Tc)) fun l44 =>
 Ve a0 a1 a2 t18 t24 l44)) (Ve a0 a1 a2 t18 a3 a0.kaa)
def Vd (t13 : (Int)) (m : Int) (m_2 : (List UInt8)) (l : (List Int)) (l_2 : (List Tg)) (l_3 : (List Ta)) (m_3 : (List UInt8)) (m_4 : Bool) (m_5 : Int) (m_6 : Nat) (m_7 : Int) (l_4 : (List Tc)) (mp : (List (Int × Bool))) : Option (Ta × Tb) :=
 some ((⟨t13, (⟨m, m_2, l, l_2, l_3⟩ : Te)⟩ : Ta), (⟨m_3, m_4, l_4, mp, m_5, m_6, m_7⟩ : Tb))
def Vf (a0 : Tb) (a1 : Int) (self : (Tb × Int × (List Int)) → Option ((List Ta) × Int × Tb)) (t13 : (Int)) (t17 : (Int)) (t21 : (Int)) (l26 : (List Int)) (x51 : Bool) : Option (Ta × Tb) :=
 Qe x51 (Js (Qc a0 1) fun t59 =>
 Vd t13 t17 [] ([] : List Int) ([] : List Tg) ([] : List Ta) t59.s_ t59.kab t59.kad t59.kac t59.no_ t59.kaa t59.kae) (Qe (decide (t17 = 13)) (Js (gI (a1 + 8)) fun t67 =>
 Js (Ji a0 t67 4) fun t68 =>
 Js (self (a0, t68, l26)) fun t70 =>
 Vd t13 t17 [] ([] : List Int) ([] : List Tg) t70.1 t70.2.2.s_ t70.2.2.kab t70.2.2.kad t70.2.2.kac t70.2.2.no_ t70.2.2.kaa t70.2.2.kae) (Js (gI (a1 + 8)) fun t42 =>
 Js (Wl a0 t17 t21 t42) fun t43 =>
 Vd t13 t43.1.kai t43.1.kaj t43.1.kak t43.1.kah t43.1.kag t43.2.s_ t43.2.kab t43.2.kad t43.2.kac t43.2.no_ t43.2.kaa t43.2.kae))
def X1 (self : (Tb × Int × (List Int)) → Option ((List Ta) × Int × Tb)) (a0 : Tb) (a1 : Int) (a2 : (List Int)) : Option (Ta × Tb) :=
 Js (Ji a0 a1 2) fun t13 =>
 Js (gI (a1 + 2)) fun t16 =>
 Js (Ji a0 t16 2) fun t17 =>
 Js (gI (a1 + 4)) fun t20 =>
 Js (Ji a0 t20 4) fun t21 =>
 Js (Y5 a2) fun t23 =>
 Js (Wb 8 t23 ([t13] : List Int)) fun l26 =>
 Js (gFn (mft39 a0.kac)) fun g33 =>
 Js (g33 l26 a1) fun t33 =>
 Js (Z4 t17) fun t47 =>
 Qe (decide (t47 = 0)) (Js (Qc a0 10) fun t50 =>
 Vd t13 t17 [] ([] : List Int) ([] : List Tg) ([] : List Ta) t50.s_ t50.kab t50.kad t50.kac t50.no_ t50.kaa t50.kae) (Qe (decide (t17 = 13)) (Vf a0 a1 self t13 t17 t21 l26 (decide (t21 ≠ 1))) (Vf a0 a1 self t13 t17 t21 l26 false))
def Jaq (x7 : Int) (m_11 : (List UInt8)) (m_12 : Bool) (m_13 : Int) (m_14 : Nat) (m_15 : Int) (l_3 : (List Tc)) (mp_3 : (List (Int × Bool))) (l_4 : (List Ta)) : Option ((List Ta) × Int × Tb) :=
 some (l_4, x7, (⟨m_11, m_12, l_3, mp_3, m_13, m_14, m_15⟩ : Tb))
def V3 (a2 : (List Int)) (self : (Tb × Int × (List Int)) → Option ((List Ta) × Int × Tb)) (x1_2 : Int) (x7_3 : Int) (x9_2 : Int) (x10_2 : Int) (m_21 : (List UInt8)) (m_22 : Bool) (m_23 : Int) (m_24 : Nat) (m_25 : Int) (l_7 : (List Tc)) (mp_5 : (List (Int × Bool))) (l_8 : (List Ta)) (next4 : ((Int × Int × Int × Int × (List UInt8) × Bool × Int × Nat × Int × (List Tc) × (List (Int × Bool)) × (List Ta)) → Option ((List Ta) × Int × Tb))) : Option ((List Ta) × Int × Tb) :=
 Js (gI (x1_2 + 2)) fun t135 =>
 Js (gI (12 * x10_2)) fun t137 =>
 Js (gI (t135 + t137)) fun t138 =>
 Js (X1 self (⟨m_21, m_22, l_7, mp_5, m_23, m_24, m_25⟩ : Tb) t138 a2) fun t140 =>
 Js (Wb 104 l_8 ([t140.1] : List Ta)) fun l142 =>
 Js (gI (x10_2 + 1)) fun t111 =>
 next4 (x1_2, x7_3, x9_2, t111, t140.2.s_, t140.2.kab, t140.2.kad, t140.2.kac, t140.2.no_, t140.2.kaa, t140.2.kae, l142)
def Xo (a2 : (List Int)) (self : (Tb × Int × (List Int)) → Option ((List Ta) × Int × Tb)) (next4 : ((Int × Int × Int × Int × (List UInt8) × Bool × Int × Nat × Int × (List Tc) × (List (Int × Bool)) × (List Ta)) → Option ((List Ta) × Int × Tb))) (x1_2 : Int) (x7_3 : Int) (x9_2 : Int) (x10_2 : Int) (m_21 : (List UInt8)) (m_22 : Bool) (m_23 : Int) (m_24 : Nat) (m_25 : Int) (l_7 : (List Tc)) (mp_5 : (List (Int × Bool))) (l_8 : (List Ta)) : Option ((List Ta) × Int × Tb) :=
 Qe (decide (x10_2 < x9_2)) (Qe (decide (m_25 = 0)) (Qe (decide (0 < x10_2)) (Js (gI (x1_2 + 2)) fun t117 =>
 Js (gI (12 * x10_2)) fun t119 =>
 Js (gI (t117 + t119)) fun t120 =>
 Js (Ji (⟨m_21, m_22, l_7, mp_5, m_23, m_24, m_25⟩ : Tb) t120 2) fun t121 =>
 Js (gI (x10_2 - 1)) fun t124 =>
 Js (Zb l_8 t124) fun t125 =>
 Qe (decide (t121 ≤ t125.Tag)) (Js (Qc (⟨m_21, m_22, l_7, mp_5, m_23, m_24, m_25⟩ : Tb) 5) fun t131 =>
 Jaq x7_3 t131.s_ t131.kab t131.kad t131.kac t131.no_ t131.kaa t131.kae l_8) (V3 a2 self x1_2 x7_3 x9_2 x10_2 m_21 m_22 m_23 m_24 m_25 l_7 mp_5 l_8 next4)) (V3 a2 self x1_2 x7_3 x9_2 x10_2 m_21 m_22 m_23 m_24 m_25 l_7 mp_5 l_8 next4)) (Jaq x7_3 m_21 m_22 m_23 m_24 m_25 l_7 mp_5 l_8)) (Jaq x7_3 m_21 m_22 m_23 m_24 m_25 l_7 mp_5 l_8)
def Uf (a1 : Int) (a2 : (List Int)) (self : (Tb × Int × (List Int)) → Option ((List Ta) × Int × Tb)) (t21 : (Int)) (t91 : (Int)) (m_6 : (List UInt8)) (m_7 : Bool) (m_8 : Int) (m_9 : Nat) (m_10 : Int) (l_2 : (List Tc)) (mp_2 : (List (Int × Bool))) : Option ((List Ta) × Int × Tb) :=
 Vv (fun next4 s => Xo a2 self next4 s.1 s.2.1 s.2.2.1 s.2.2.2.1 s.2.2.2.2.1 s.2.2.2.2.2.1 s.2.2.2.2.2.2.1 s.2.2.2.2.2.2.2.1 s.2.2.2.2.2.2.2.2.1 s.2.2.2.2.2.2.2.2.2.1 s.2.2.2.2.2.2.2.2.2.2.1 s.2.2.2.2.2.2.2.2.2.2.2) (a1, t91, t21, 0, m_6, m_7, m_8, m_9, m_10, l_2, mp_2, ([] : List Ta))
def Xp (a1 : Int) (a2 : (List Int)) (self : (Tb × Int × (List Int)) → Option ((List Ta) × Int × Tb)) (t21 : (Int)) (m : (List UInt8)) (m_2 : Bool) (m_3 : Int) (m_4 : Nat) (m_5 : Int) (l : (List Tc)) (mp : (List (Int × Bool))) : Option ((List Ta) × Int × Tb) :=
 Qe (decide (m_5 ≠ 0)) (some (([] : List Ta), 0, (⟨m, m_2, l, mp, m_3, m_4, m_5⟩ : Tb))) (Js (gI (a1 + 2)) fun t75 =>
 Js (gI (12 * t21)) fun t77 =>
 Js (gI (t75 + t77)) fun t78 =>
 Js (gI (t78 + 4)) fun t79 =>
 Js (Wb 16 l ([(⟨a1, t79⟩ : Tc)] : List Tc)) fun l82 =>
 Js (gI (a1 + 2)) fun t87 =>
 Js (gI (12 * t21)) fun t89 =>
 Js (gI (t87 + t89)) fun t90 =>
 Js (Ji (⟨m, m_2, l82, (Yp mp a1 true), m_3, m_4, m_5⟩ : Tb) t90 4) fun t91 =>
 Qe (decide (1 < (a2.length : Int))) (Qe (decide (t91 ≠ 0)) (Js (Qc (⟨m, m_2, l82, (Yp mp a1 true), m_3, m_4, m_5⟩ : Tb) 1) fun t99 =>
 Uf a1 a2 self t21 t91 t99.s_ t99.kab t99.kad t99.kac t99.no_ t99.kaa t99.kae) (Uf a1 a2 self t21 t91 m m_2 m_3 m_4 m_5 l82 (Yp mp a1 true))) (Uf a1 a2 self t21 t91 m m_2 m_3 m_4 m_5 l82 (Yp mp a1 true)))
def J6 (self : (Tb × Int × (List Int)) → Option ((List Ta) × Int × Tb)) (a0 : Tb) (a1 : Int) (a2 : (List Int)) : Option ((List Ta) × Int × Tb) :=
 Js (Y6 a0 a1 2) fun t15 =>
 Qe (!t15) (Js (Qc a0 2) fun t18 =>
 some (([] : List Ta), 0, t18)) (Js (Ji a0 a1 2) fun t21 =>
 Qe ((Q2 a0.kae a1).getD false) (Js (Qc a0 13) fun t30 =>
 Xp a1 a2 self t21 t30.s_ t30.kab t30.kad t30.kac t30.no_ t30.kaa t30.kae) (Qe (decide (20 < a0.kad)) (Js (Qc a0 4) fun t46 =>
 Xp a1 a2 self t21 t46.s_ t46.kab t46.kad t46.kac t46.no_ t46.kaa t46.kae) (Qe (decide (5 < (a2.length : Int))) (Js (Qc a0 4) fun t46_2 =>
 Xp a1 a2 self t21 t46_2.s_ t46_2.kab t46_2.kad t46_2.kac t46_2.no_ t46_2.kaa t46_2.kae) (Qe (decide (200 < t21)) (Js (Qc a0 4) fun t46_3 =>
 Xp a1 a2 self t21 t46_3.s_ t46_3.kab t46_3.kad t46_3.kac t46_3.no_ t46_3.kaa t46_3.kae) (Js (gI (12 * t21)) fun t51 =>
 Js (gI (2 + t51)) fun t52 =>
 Js (gI (t52 + 4)) fun t53 =>
 Js (Y6 a0 a1 t53) fun t54 =>
 Qe (!t54) (Js (Qc a0 2) fun t57 =>
 Xp a1 a2 self t21 t57.s_ t57.kab t57.kad t57.kac t57.no_ t57.kaa t57.kae) (Xp a1 a2 self t21 a0.s_ a0.kab a0.kad a0.kac a0.no_ a0.kaa a0.kae))))))
def Vx (a0 : Tb) (a1 : Int) (a2 : (List Int)) : Option ((List Ta) × Int × Tb) :=
 Vv (fun (self : (Tb × Int × (List Int)) → Option ((List Ta) × Int × Tb)) (s : Tb × Int × (List Int)) => J6 self s.1 s.2.1 s.2.2) (a0, a1, a2)
def Jam (a0 : Int) : Option (Bool) :=
 some (decide (a0 ≠ a0))
def cmp_Compare_int (a0 : Int) (a1 : Int) : Option (Int) :=
 Js (Jam a0) fun t8 =>
 Js (Jam a1) fun t10 =>
 Qe t8 (Qe t10 (some 0) (some (-1))) (Qe t10 (some 1) (Qe (decide (a0 < a1)) (some (-1)) (Qe (decide (a1 < a0)) (some 1) (some 0))))
def Zn (a0 : (List Int)) (next1 : ((Int) → Option (Int))) (x8_2 : Int) : Option (Int) :=
 Qe (decide (x8_2 < (a0.length : Int))) (Js (Zb a0 x8_2) fun t10 =>
 Qe (decide (t10 ≠ 0)) (some t10) (Js (gI (x8_2 + 1)) fun t16 =>
 next1 t16)) (some 0)
def Jdd (a0 : (List Int)) : Option (Int) :=
 Vv (fun next1 s => Zn a0 next1 s) 0
def Qf (a0 : Tc) (a1 : Tc) : Option (Int) :=
 Js (cmp_Compare_int a0.From a1.From) fun t9 =>
 Js (cmp_Compare_int a0.To a1.To) fun t14 =>
 Js (Jdd ([t9, t14] : List Int)) fun t16 =>
 some t16
def Vw (a0 : (List Tc)) (next1 : ((Int) → Option (Bool))) (x3_2 : Int) : Option (Bool) :=
 Qe (decide (x3_2 < (a0.length : Int))) (Js (Zb a0 x3_2) fun t12 =>
 Js (gI (x3_2 - 1)) fun t17 =>
 Js (Zb a0 t17) fun t18 =>
 Qe (decide (t12.From < t18.To)) (some true) (Js (gI (x3_2 + 1)) fun t9 =>
 next1 t9)) (some false)
def Jaw (a0 : (List Tc)) : Option (Bool) :=
 Vv (fun next1 s => Vw a0 next1 s) 1
def Ze (t22 : Int) (l_2 : (List (List Ta))) (t72 : ((List Tc))) (m_7 : Int) : Option (Th × (List Tc) × Int) :=
 Qe (decide (m_7 ≠ 0)) (some ((⟨false, ([] : List (List Ta))⟩ : Th), ([] : List Tc), m_7)) (some ((⟨(decide (t22 = 77)), l_2⟩ : Th), t72, 0))
def Zd (t22 : Int) (l_2 : (List (List Ta))) (t72 : ((List Tc))) (m_6 : Int) : Option (Th × (List Tc) × Int) :=
 Qe (decide (m_6 = 0)) (Js (Jak (⟨(decide (t22 = 77)), l_2⟩ : Th)) fun t95 =>
 Ze t22 l_2 t72 t95) (Ze t22 l_2 t72 m_6)
def Zy (t22 : Int) (m : (List UInt8)) (m_2 : Bool) (m_3 : Int) (m_4 : Nat) (m_5 : Int) (l : (List Tc)) (l_2 : (List (List Ta))) (mp : (List (Int × Bool))) : Option (Th × (List Tc) × Int) :=
 Js (Jdv l Qf) fun t72 =>
 Qe (decide (m_5 = 0)) (Js (Jaw t72) fun t83 =>
 Qe t83 (Zd t22 l_2 t72 6) (Zd t22 l_2 t72 m_5)) (Zd t22 l_2 t72 m_5)
def Uv (t22 : Int) (next4 : ((Int × (List UInt8) × Bool × Int × Nat × Int × (List Tc) × (List (List Ta)) × (List (Int × Bool))) → Option (Th × (List Tc) × Int))) (x9_2 : Int) (m_13 : (List UInt8)) (m_14 : Bool) (m_15 : Int) (m_16 : Nat) (m_17 : Int) (l_5 : (List Tc)) (l_6 : (List (List Ta))) (mp_3 : (List (Int × Bool))) : Option (Th × (List Tc) × Int) :=
 Qe (decide (x9_2 ≠ 0)) (Qe (decide (m_17 = 0)) (Js (gI (m_15 + 1)) fun t48 =>
 Js (Vx (⟨m_13, m_14, l_5, mp_3, t48, m_16, m_17⟩ : Tb) x9_2 ([(l_6.length : Int)] : List Int)) fun t58 =>
 Js (Wb 24 l_6 ([t58.1] : List (List Ta))) fun l65 =>
 next4 (t58.2.1, t58.2.2.s_, t58.2.2.kab, t58.2.2.kad, t58.2.2.kac, t58.2.2.no_, t58.2.2.kaa, l65, t58.2.2.kae)) (Zy t22 m_13 m_14 m_15 m_16 m_17 l_5 l_6 mp_3)) (Zy t22 m_13 m_14 m_15 m_16 m_17 l_5 l_6 mp_3)
def Jb5 (a0 : (List UInt8)) (a1 : Nat) : Option (Th × (List Tc) × Int) :=
 Qe (decide (65000 < (a0.length : Int))) (some ((⟨false, ([] : List (List Ta))⟩ : Th), ([] : List Tc), 4)) (Js (U7 a0) fun t17 =>
 Qe (!t17) (some ((⟨false, ([] : List (List Ta))⟩ : Th), ([] : List Tc), 8)) (Js (gOct a0 0) fun t22 =>
 Js (Ji (⟨a0, (decide (t22 = 77)), ([] : (List Tc)), ([] : (List (Int × Bool))), 0, a1, 0⟩ : Tb) 4 4) fun t34 =>
 Vv (fun next4 s => Uv t22 next4 s.1 s.2.1 s.2.2.1 s.2.2.2.1 s.2.2.2.2.1 s.2.2.2.2.2.1 s.2.2.2.2.2.2.1 s.2.2.2.2.2.2.2.1 s.2.2.2.2.2.2.2.2) (t34, a0, (decide (t22 = 77)), 0, a1, 0, ([] : List Tc), ([] : List (List Ta)), ([] : (List (Int × Bool))))))
def Vh (a0 : (List Int)) (a1 : (List Int)) (next1 : ((Int) → Option (Bool))) (x13_2 : Int) : Option (Bool) :=
 Qe (decide (x13_2 < (a0.length : Int))) (Js (Zb a0 x13_2) fun t18 =>
 Js (Zb a1 x13_2) fun t22 =>
 Qe (decide (t18 ≠ t22)) (some false) (Js (gI (x13_2 + 1)) fun t25 =>
 next1 t25)) (some true)
def Ja1 (a0 : (List Int)) (a1 : (List Int)) : Option (Bool) :=
 Qe (decide ((a0.length : Int) ≠ (a1.length : Int))) (some false) (Vv (fun next1 s => Vh a0 a1 next1 s) 0)
def Jds (q0 : (List Int)) (q1 : Int) (a0 : (List Int)) (a1 : Int) : Option (Int) :=
 Js (Ja1 a0 q0) fun t8 =>
 Qe t8 (some a1) (some q1)
def U0 : List Ta → List Int → Option (Option (List Nat))
 | _, [] => some (some [])
 | l, t :: ts => Js (Jd3 l t) fun p => Qe (!p.2) (some none) (Js (Zb l p.1) fun e => Qe (decide (e.Value.kai ≠ 13)) (some none) (Js (U0 e.Value.kag ts) fun r => some (r.map (p.1.toNat :: ·))))
def Jd6 (ls : List (List Ta)) (path : List Int) : Option (Option (List Nat)) :=
 Qe (decide ((path.length : Int) < 2)) (some none) (Js (Zb path 0) fun p0 => Js (gI ((ls.length : Int) - 1)) fun m => Js (Uw p0 0 m) fun o => Qe o (some none) (Js (Zb ls p0) fun l => Js (gI ((path.length : Int) - 1)) fun q => Js (Qp path 1 q) fun ts => Js (U0 l ts) fun r => some (r.map (p0.toNat :: ·))))
def Jcs : List Nat → List Ta → List Ta
 | [], l => l
 | n :: ks, l => match l[n]? with
  | some e => Jcs ks e.Value.kag
  | none => []
def getF : List Nat → List (List Ta) → List Ta
 | [], _ => []
 | i :: ks, ls => match ls[i]? with
  | some l => Jcs ks l
  | none => []
def fits : Nat → List Ta → Prop
 | 0, _ => False
 | d + 1, xs => xs.length ≤ 1000000 ∧ ∀ x ∈ xs, x.Value.kak.length ≤ 2000000 ∧ x.Value.kah.length ≤ 2000000 ∧ fits d x.Value.kag
def fitV (d : Nat) (x : Te) : Prop := x.kak.length ≤ 2000000 ∧ x.kah.length ≤ 2000000 ∧ fits d x.kag
def noV : Te := ⟨0, [], [], [], []⟩
def Jg8 (a0 : Th) (a1 : (List Int)) : Option (Te × Int) :=
 Js (Jak a0) fun t => Qe (decide (t ≠ 0)) (some (noV, t)) (Js (Jd6 a0.kap a1) fun r => match r with
  | none => some (noV, 7)
  | some ks => Js (gI ((a1.length : Int) - 1)) fun q => Js (Zb a1 q) fun t => Js (Jd3 (getF ks a0.kap) t) fun p => Qe (!p.2) (some (noV, 7)) (Js (Zb (getF ks a0.kap) p.1) fun e => open Classical in if fitV 8 e.Value then some (e.Value, 0) else none))
def Jbc (a1 : Int) (x14_2 : Int) (l_2 : (List Int)) (next1 : ((Int × (List Int)) → Option ((List Int)))) (x9 : Int) : Option ((List Int)) :=
 Js (gI (8 * x14_2)) fun t27 =>
 Js (gShr 64 a1 t27) fun t28 =>
 Js (Zb l_2 x9) fun t30 =>
 Js (gSet l_2 x9 (wU8 t28)) fun l0 =>
 Js (gI (x14_2 + 1)) fun t31 =>
 next1 (t31, l0)
def Vu (a0 : Bool) (a1 : Int) (a2 : Int) (t11 : (List Int)) (next1 : ((Int × (List Int)) → Option ((List Int)))) (x14_2 : Int) (l_2 : (List Int)) : Option ((List Int)) :=
 Qe (decide (x14_2 < (t11.length : Int))) (Qe a0 (Js (gI (a2 - 1)) fun t20 =>
 Js (gI (t20 - x14_2)) fun t22 =>
 Jbc a1 x14_2 l_2 next1 t22) (Jbc a1 x14_2 l_2 next1 x14_2)) (some l_2)
def J5 (a0 : Bool) (a1 : Int) (a2 : Int) : Option ((List Int)) :=
 Js (gMake 1 a2 0) fun t11 =>
 Vv (fun next1 s => Vu a0 a1 a2 t11 next1 s.1 s.2) (0, t11)
def We (a0 : Bool) (a1 : Te) (next2 : ((Int × (List Int)) → Option ((List Int)))) (x43_2 : Int) (l_3 : (List Int)) : Option ((List Int)) :=
 Qe (decide (x43_2 < (a1.kah.length : Int))) (Js (Zb a1.kah x43_2) fun t45 =>
 Js (J5 a0 t45.Num 4) fun t51 =>
 Js (Wb 1 l_3 t51) fun l52 =>
 Js (J5 a0 t45.Den 4) fun t57 =>
 Js (Wb 1 l52 t57) fun l58 =>
 Js (gI (x43_2 + 1)) fun t59 =>
 next2 (t59, l58)) (some l_3)
def Jbb (a0 : Bool) (a1 : Te) (l : (List Int)) : Option ((List Int)) :=
 Vv (fun next2 s => We a0 a1 next2 s.1 s.2) (0, l)
def Wh (a0 : Bool) (a1 : Te) (next3 : ((Int × (List Int)) → Option ((List Int)))) (x27_2 : Int) (l_5 : (List Int)) : Option ((List Int)) :=
 Qe (decide (x27_2 < (a1.kak.length : Int))) (Js (Zb a1.kak x27_2) fun t29 =>
 Js (Z4 a1.kai) fun t36 =>
 Js (J5 a0 t29 t36) fun t37 =>
 Js (Wb 1 l_5 t37) fun l38 =>
 Js (gI (x27_2 + 1)) fun t39 =>
 next3 (t39, l38)) (Jbb a0 a1 l_5)
def Jei (a0 : Bool) (a1 : Te) : Option ((List Int)) :=
 Qe (decide (a1.kai = 2)) (Js (gByt a1.kaj) fun t16 =>
 Js (Wb 1 t16 ([0] : List Int)) fun l18 =>
 some l18) (Qe (decide (a1.kai = 7)) (Js (gByt a1.kaj) fun t23 =>
 some t23) (Vv (fun next3 s => Wh a0 a1 next3 s.1 s.2) (0, ([] : List Int))))
def J0 (a0 : Tj) (a1 : Int) (a2 : Int) : Option (Tj) :=
 Js (Qp a0.kao a1 a0.kao.length) fun t11 =>
 Js (J5 a0.kab a2 4) fun t17 =>
 some (⟨a0.kab, (Vn a0.kao a1 t11.length t17)⟩ : Tj)
def Wa (a0 : Tj) (l : (List Int)) : Option (Int × Tj) :=
 some ((l.length : Int), (⟨a0.kab, l⟩ : Tj))
def Ya (a0 : Tj) : Option (Int × Tj) :=
 Js (gRem (a0.kao.length : Int) 2) fun t8 =>
 Qe (decide (t8 ≠ 0)) (Js (Wb 1 a0.kao ([0] : List Int)) fun l16 =>
 Wa a0 l16) (Wa a0 a0.kao)
def Ji6 (a0 : (List UInt8)) : Option (Th × Int) :=
 Js (Jb5 a0 0) fun t9 =>
 some (t9.1, t9.2.2)
def Zv (t13 : (Int)) (m : Int) (m_2 : (List UInt8)) (m_3 : Bool) (m_4 : Int) (m_5 : Nat) (m_6 : Int) (l : (List Tc)) (mp : (List (Int × Bool))) (m_7 : Int) (m_8 : (List UInt8)) (l_2 : (List Int)) (l_3 : (List Tg)) (l_4 : (List Ta)) : Option (Ta × Int × Tb) :=
 some ((⟨t13, (⟨m_7, m_8, l_2, l_3, l_4⟩ : Te)⟩ : Ta), m, (⟨m_2, m_3, l, mp, m_4, m_5, m_6⟩ : Tb))
def Zw (q0 : (List Int)) (a0 : Tb) (a1 : Int) (self : ((List Int) × Int × Tb × Int × (List Int)) → Option ((List Ta) × Int × Int × Tb)) (t13 : (Int)) (t17 : (Int)) (t21 : (Int)) (l26 : (List Int)) (t33 : (Int)) (x51 : Bool) : Option (Ta × Int × Tb) :=
 Qe x51 (Js (Qc a0 1) fun t59 =>
 Zv t13 t33 t59.s_ t59.kab t59.kad t59.kac t59.no_ t59.kaa t59.kae t17 [] ([] : List Int) ([] : List Tg) ([] : List Ta)) (Qe (decide (t17 = 13)) (Js (gI (a1 + 8)) fun t67 =>
 Js (Ji a0 t67 4) fun t68 =>
 Js (self (q0, t33, a0, t68, l26)) fun t70 =>
 Zv t13 t70.2.2.1 t70.2.2.2.s_ t70.2.2.2.kab t70.2.2.2.kad t70.2.2.2.kac t70.2.2.2.no_ t70.2.2.2.kaa t70.2.2.2.kae t17 [] ([] : List Int) ([] : List Tg) t70.1) (Js (gI (a1 + 8)) fun t42 =>
 Js (Wl a0 t17 t21 t42) fun t43 =>
 Zv t13 t33 t43.2.s_ t43.2.kab t43.2.kad t43.2.kac t43.2.no_ t43.2.kaa t43.2.kae t43.1.kai t43.1.kaj t43.1.kak t43.1.kah t43.1.kag))
def Xk (self : ((List Int) × Int × Tb × Int × (List Int)) → Option ((List Ta) × Int × Int × Tb)) (q0 : (List Int)) (q1 : Int) (a0 : Tb) (a1 : Int) (a2 : (List Int)) : Option (Ta × Int × Tb) :=
 Js (Ji a0 a1 2) fun t13 =>
 Js (gI (a1 + 2)) fun t16 =>
 Js (Ji a0 t16 2) fun t17 =>
 Js (gI (a1 + 4)) fun t20 =>
 Js (Ji a0 t20 4) fun t21 =>
 Js (Y5 a2) fun t23 =>
 Js (Wb 8 t23 ([t13] : List Int)) fun l26 =>
 Js (Jds q0 q1 l26 a1) fun t33 =>
 Js (Z4 t17) fun t47 =>
 Qe (decide (t47 = 0)) (Js (Qc a0 10) fun t50 =>
 Zv t13 t33 t50.s_ t50.kab t50.kad t50.kac t50.no_ t50.kaa t50.kae t17 [] ([] : List Int) ([] : List Tg) ([] : List Ta)) (Qe (decide (t17 = 13)) (Zw q0 a0 a1 self t13 t17 t21 l26 t33 (decide (t21 ≠ 1))) (Zw q0 a0 a1 self t13 t17 t21 l26 t33 false))
def U4 (x7 : Int) (m_11 : Int) (m_12 : (List UInt8)) (m_13 : Bool) (m_14 : Int) (m_15 : Nat) (m_16 : Int) (l_3 : (List Tc)) (mp_3 : (List (Int × Bool))) (l_4 : (List Ta)) : Option ((List Ta) × Int × Int × Tb) :=
 some (l_4, x7, m_11, (⟨m_12, m_13, l_3, mp_3, m_14, m_15, m_16⟩ : Tb))
def Vs (q0 : (List Int)) (a2 : (List Int)) (self : ((List Int) × Int × Tb × Int × (List Int)) → Option ((List Ta) × Int × Int × Tb)) (x1_2 : Int) (x7_3 : Int) (x9_2 : Int) (x10_2 : Int) (m_23 : Int) (m_24 : (List UInt8)) (m_25 : Bool) (m_26 : Int) (m_27 : Nat) (m_28 : Int) (l_7 : (List Tc)) (mp_5 : (List (Int × Bool))) (l_8 : (List Ta)) (next4 : ((Int × Int × Int × Int × Int × (List UInt8) × Bool × Int × Nat × Int × (List Tc) × (List (Int × Bool)) × (List Ta)) → Option ((List Ta) × Int × Int × Tb))) : Option ((List Ta) × Int × Int × Tb) :=
 Js (gI (x1_2 + 2)) fun t135 =>
 Js (gI (12 * x10_2)) fun t137 =>
 Js (gI (t135 + t137)) fun t138 =>
 Js (Xk self q0 m_23 (⟨m_24, m_25, l_7, mp_5, m_26, m_27, m_28⟩ : Tb) t138 a2) fun t140 =>
 Js (Wb 104 l_8 ([t140.1] : List Ta)) fun l142 =>
 Js (gI (x10_2 + 1)) fun t111 =>
 next4 (x1_2, x7_3, x9_2, t111, t140.2.1, t140.2.2.s_, t140.2.2.kab, t140.2.2.kad, t140.2.2.kac, t140.2.2.no_, t140.2.2.kaa, t140.2.2.kae, l142)
def Xg (q0 : (List Int)) (a2 : (List Int)) (self : ((List Int) × Int × Tb × Int × (List Int)) → Option ((List Ta) × Int × Int × Tb)) (next4 : ((Int × Int × Int × Int × Int × (List UInt8) × Bool × Int × Nat × Int × (List Tc) × (List (Int × Bool)) × (List Ta)) → Option ((List Ta) × Int × Int × Tb))) (x1_2 : Int) (x7_3 : Int) (x9_2 : Int) (x10_2 : Int) (m_23 : Int) (m_24 : (List UInt8)) (m_25 : Bool) (m_26 : Int) (m_27 : Nat) (m_28 : Int) (l_7 : (List Tc)) (mp_5 : (List (Int × Bool))) (l_8 : (List Ta)) : Option ((List Ta) × Int × Int × Tb) :=
 Qe (decide (x10_2 < x9_2)) (Qe (decide (m_28 = 0)) (Qe (decide (0 < x10_2)) (Js (gI (x1_2 + 2)) fun t117 =>
 Js (gI (12 * x10_2)) fun t119 =>
 Js (gI (t117 + t119)) fun t120 =>
 Js (Ji (⟨m_24, m_25, l_7, mp_5, m_26, m_27, m_28⟩ : Tb) t120 2) fun t121 =>
 Js (gI (x10_2 - 1)) fun t124 =>
 Js (Zb l_8 t124) fun t125 =>
 Qe (decide (t121 ≤ t125.Tag)) (Js (Qc (⟨m_24, m_25, l_7, mp_5, m_26, m_27, m_28⟩ : Tb) 5) fun t131 =>
 U4 x7_3 m_23 t131.s_ t131.kab t131.kad t131.kac t131.no_ t131.kaa t131.kae l_8) (Vs q0 a2 self x1_2 x7_3 x9_2 x10_2 m_23 m_24 m_25 m_26 m_27 m_28 l_7 mp_5 l_8 next4)) (Vs q0 a2 self x1_2 x7_3 x9_2 x10_2 m_23 m_24 m_25 m_26 m_27 m_28 l_7 mp_5 l_8 next4)) (U4 x7_3 m_23 m_24 m_25 m_26 m_27 m_28 l_7 mp_5 l_8)) (U4 x7_3 m_23 m_24 m_25 m_26 m_27 m_28 l_7 mp_5 l_8)
def Ww (q0 : (List Int)) (q1 : Int) (a1 : Int) (a2 : (List Int)) (self : ((List Int) × Int × Tb × Int × (List Int)) → Option ((List Ta) × Int × Int × Tb)) (t21 : (Int)) (t91 : (Int)) (m_6 : (List UInt8)) (m_7 : Bool) (m_8 : Int) (m_9 : Nat) (m_10 : Int) (l_2 : (List Tc)) (mp_2 : (List (Int × Bool))) : Option ((List Ta) × Int × Int × Tb) :=
 Vv (fun next4 s => Xg q0 a2 self next4 s.1 s.2.1 s.2.2.1 s.2.2.2.1 s.2.2.2.2.1 s.2.2.2.2.2.1 s.2.2.2.2.2.2.1 s.2.2.2.2.2.2.2.1 s.2.2.2.2.2.2.2.2.1 s.2.2.2.2.2.2.2.2.2.1 s.2.2.2.2.2.2.2.2.2.2.1 s.2.2.2.2.2.2.2.2.2.2.2.1 s.2.2.2.2.2.2.2.2.2.2.2.2) (a1, t91, t21, 0, q1, m_6, m_7, m_8, m_9, m_10, l_2, mp_2, ([] : List Ta))
def Xh (q0 : (List Int)) (q1 : Int) (a1 : Int) (a2 : (List Int)) (self : ((List Int) × Int × Tb × Int × (List Int)) → Option ((List Ta) × Int × Int × Tb)) (t21 : (Int)) (m : (List UInt8)) (m_2 : Bool) (m_3 : Int) (m_4 : Nat) (m_5 : Int) (l : (List Tc)) (mp : (List (Int × Bool))) : Option ((List Ta) × Int × Int × Tb) :=
 Qe (decide (m_5 ≠ 0)) (some (([] : List Ta), 0, q1, (⟨m, m_2, l, mp, m_3, m_4, m_5⟩ : Tb))) (Js (gI (a1 + 2)) fun t75 =>
 Js (gI (12 * t21)) fun t77 =>
 Js (gI (t75 + t77)) fun t78 =>
 Js (gI (t78 + 4)) fun t79 =>
 Js (Wb 16 l ([(⟨a1, t79⟩ : Tc)] : List Tc)) fun l82 =>
 Js (gI (a1 + 2)) fun t87 =>
 Js (gI (12 * t21)) fun t89 =>
 Js (gI (t87 + t89)) fun t90 =>
 Js (Ji (⟨m, m_2, l82, (Yp mp a1 true), m_3, m_4, m_5⟩ : Tb) t90 4) fun t91 =>
 Qe (decide (1 < (a2.length : Int))) (Qe (decide (t91 ≠ 0)) (Js (Qc (⟨m, m_2, l82, (Yp mp a1 true), m_3, m_4, m_5⟩ : Tb) 1) fun t99 =>
 Ww q0 q1 a1 a2 self t21 t91 t99.s_ t99.kab t99.kad t99.kac t99.no_ t99.kaa t99.kae) (Ww q0 q1 a1 a2 self t21 t91 m m_2 m_3 m_4 m_5 l82 (Yp mp a1 true))) (Ww q0 q1 a1 a2 self t21 t91 m m_2 m_3 m_4 m_5 l82 (Yp mp a1 true)))
def Qn (self : ((List Int) × Int × Tb × Int × (List Int)) → Option ((List Ta) × Int × Int × Tb)) (q0 : (List Int)) (q1 : Int) (a0 : Tb) (a1 : Int) (a2 : (List Int)) : Option ((List Ta) × Int × Int × Tb) :=
 Js (Y6 a0 a1 2) fun t15 =>
 Qe (!t15) (Js (Qc a0 2) fun t18 =>
 some (([] : List Ta), 0, q1, t18)) (Js (Ji a0 a1 2) fun t21 =>
 Qe ((Q2 a0.kae a1).getD false) (Js (Qc a0 13) fun t30 =>
 Xh q0 q1 a1 a2 self t21 t30.s_ t30.kab t30.kad t30.kac t30.no_ t30.kaa t30.kae) (Qe (decide (20 < a0.kad)) (Js (Qc a0 4) fun t46 =>
 Xh q0 q1 a1 a2 self t21 t46.s_ t46.kab t46.kad t46.kac t46.no_ t46.kaa t46.kae) (Qe (decide (5 < (a2.length : Int))) (Js (Qc a0 4) fun t46_2 =>
 Xh q0 q1 a1 a2 self t21 t46_2.s_ t46_2.kab t46_2.kad t46_2.kac t46_2.no_ t46_2.kaa t46_2.kae) (Qe (decide (200 < t21)) (Js (Qc a0 4) fun t46_3 =>
 Xh q0 q1 a1 a2 self t21 t46_3.s_ t46_3.kab t46_3.kad t46_3.kac t46_3.no_ t46_3.kaa t46_3.kae) (Js (gI (12 * t21)) fun t51 =>
 Js (gI (2 + t51)) fun t52 =>
 Js (gI (t52 + 4)) fun t53 =>
 Js (Y6 a0 a1 t53) fun t54 =>
 Qe (!t54) (Js (Qc a0 2) fun t57 =>
 Xh q0 q1 a1 a2 self t21 t57.s_ t57.kab t57.kad t57.kac t57.no_ t57.kaa t57.kae) (Xh q0 q1 a1 a2 self t21 a0.s_ a0.kab a0.kad a0.kac a0.no_ a0.kaa a0.kae))))))
def Jbk (q0 : (List Int)) (q1 : Int) (a0 : Tb) (a1 : Int) (a2 : (List Int)) : Option ((List Ta) × Int × Int × Tb) :=
 Vv (fun (self : ((List Int) × Int × Tb × Int × (List Int)) → Option ((List Ta) × Int × Int × Tb)) (s : (List Int) × Int × Tb × Int × (List Int)) => Qn self s.1 s.2.1 s.2.2.1 s.2.2.2.1 s.2.2.2.2) (q0, q1, a0, a1, a2)
def Jby (t22 : Int) (m : Int) (l_2 : (List (List Ta))) (t72 : ((List Tc))) (m_8 : Int) : Option (Th × (List Tc) × Int × Int) :=
 Qe (decide (m_8 ≠ 0)) (some ((⟨false, ([] : List (List Ta))⟩ : Th), ([] : List Tc), m_8, m)) (some ((⟨(decide (t22 = 77)), l_2⟩ : Th), t72, 0, m))
def Ja4 (t22 : Int) (m : Int) (l_2 : (List (List Ta))) (t72 : ((List Tc))) (m_7 : Int) : Option (Th × (List Tc) × Int × Int) :=
 Qe (decide (m_7 = 0)) (Js (Jak (⟨(decide (t22 = 77)), l_2⟩ : Th)) fun t95 =>
 Jby t22 m l_2 t72 t95) (Jby t22 m l_2 t72 m_7)
def Jb1 (t22 : Int) (m : Int) (m_2 : (List UInt8)) (m_3 : Bool) (m_4 : Int) (m_5 : Nat) (m_6 : Int) (l : (List Tc)) (l_2 : (List (List Ta))) (mp : (List (Int × Bool))) : Option (Th × (List Tc) × Int × Int) :=
 Js (Jdv l Qf) fun t72 =>
 Qe (decide (m_6 = 0)) (Js (Jaw t72) fun t83 =>
 Qe t83 (Ja4 t22 m l_2 t72 6) (Ja4 t22 m l_2 t72 m_6)) (Ja4 t22 m l_2 t72 m_6)
def Ui (q0 : (List Int)) (t22 : Int) (next4 : ((Int × Int × (List UInt8) × Bool × Int × Nat × Int × (List Tc) × (List (List Ta)) × (List (Int × Bool))) → Option (Th × (List Tc) × Int × Int))) (x9_2 : Int) (m_15 : Int) (m_16 : (List UInt8)) (m_17 : Bool) (m_18 : Int) (m_19 : Nat) (m_20 : Int) (l_5 : (List Tc)) (l_6 : (List (List Ta))) (mp_3 : (List (Int × Bool))) : Option (Th × (List Tc) × Int × Int) :=
 Qe (decide (x9_2 ≠ 0)) (Qe (decide (m_20 = 0)) (Js (gI (m_18 + 1)) fun t48 =>
 Js (Jbk q0 m_15 (⟨m_16, m_17, l_5, mp_3, t48, m_19, m_20⟩ : Tb) x9_2 ([(l_6.length : Int)] : List Int)) fun t58 =>
 Js (Wb 24 l_6 ([t58.1] : List (List Ta))) fun l65 =>
 next4 (t58.2.1, t58.2.2.1, t58.2.2.2.s_, t58.2.2.2.kab, t58.2.2.2.kad, t58.2.2.2.kac, t58.2.2.2.no_, t58.2.2.2.kaa, l65, t58.2.2.2.kae)) (Jb1 t22 m_15 m_16 m_17 m_18 m_19 m_20 l_5 l_6 mp_3)) (Jb1 t22 m_15 m_16 m_17 m_18 m_19 m_20 l_5 l_6 mp_3)
def Jfz (q0 : (List Int)) (q1 : Int) (a0 : (List UInt8)) (a1 : Nat) : Option (Th × (List Tc) × Int × Int) :=
 Qe (decide (65000 < (a0.length : Int))) (some ((⟨false, ([] : List (List Ta))⟩ : Th), ([] : List Tc), 4, q1)) (Js (U7 a0) fun t17 =>
 Qe (!t17) (some ((⟨false, ([] : List (List Ta))⟩ : Th), ([] : List Tc), 8, q1)) (Js (gOct a0 0) fun t22 =>
 Js (Ji (⟨a0, (decide (t22 = 77)), ([] : (List Tc)), ([] : (List (Int × Bool))), 0, a1, 0⟩ : Tb) 4 4) fun t34 =>
 Vv (fun next4 s => Ui q0 t22 next4 s.1 s.2.1 s.2.2.1 s.2.2.2.1 s.2.2.2.2.1 s.2.2.2.2.2.1 s.2.2.2.2.2.2.1 s.2.2.2.2.2.2.2.1 s.2.2.2.2.2.2.2.2.1 s.2.2.2.2.2.2.2.2.2) (t34, q1, a0, (decide (t22 = 77)), 0, a1, 0, ([] : List Tc), ([] : List (List Ta)), ([] : (List (Int × Bool))))))
def Jay (m : Bool) (l : (List Int)) : Option ((List UInt8) × Int) :=
 Qe (decide (65000 < (l.length : Int))) (some ([], 4)) (Js (Ji6 (Ja7 l)) fun t147 =>
 Qe (decide (t147.2 ≠ 0)) (some ([], t147.2)) (some ((Ja7 l), 0)))
def Ja2 (a0 : (List UInt8)) (t22 : (Th × (List Tc) × Int × Int)) (t59 : ((List Int))) (t78 : (Tj)) (x111 : Bool) : Option ((List UInt8) × Int) :=
 Qe x111 (Js (gI (t22.2.2.2 + 8)) fun t130 =>
 Js (Yb t22.1.Big a0 t130 4) fun t131 =>
 Js (Qp t78.kao t131 t78.kao.length) fun t132 =>
 Jay t78.kab (Vn t78.kao t131 t132.length t59)) (Js (gI (t22.2.2.2 + 8)) fun t81 =>
 Js (Ya t78) fun t83 =>
 Js (J0 t83.2 t81 t83.1) fun t84 =>
 Js (Wb 1 t84.kao t59) fun l91 =>
 Jay t84.kab l91)
def Jf5 (a0 : (List UInt8)) (a1 : (List Int)) (a2 : Te) : Option ((List UInt8) × Int) :=
 Js (Jfz a1 (-1) a0 0) fun t22 =>
 Qe (decide (t22.2.2.1 ≠ 0)) (some ([], t22.2.2.1)) (Js (Jb3 a2) fun t30 =>
 Qe (decide (t30 ≠ 0)) (some ([], t30)) (Qe (decide (t22.2.2.2 < 0)) (some ([], 7)) (Js (Jg8 t22.1 a1) fun t39 =>
 Qe (decide (t39.1.kai = 13)) (some ([], 10)) (Qe (decide (a2.kai = 13)) (some ([], 10)) (Js (gByt a0) fun t53 =>
 Js (Jei t22.1.Big a2) fun t59 =>
 Js (gI (t22.2.2.2 + 2)) fun t65 =>
 Js (Qp t53 t65 t53.length) fun t66 =>
 Js (J5 t22.1.Big a2.kai 2) fun t71 =>
 Js (gI (t22.2.2.2 + 4)) fun t75 =>
 Js (Qu a2) fun t77 =>
 Js (J0 (⟨t22.1.Big, (Vn t53 t65 t66.length t71)⟩ : Tj) t75 t77) fun t78 =>
 Qe (decide ((t59.length : Int) ≤ 4)) (Js (gI (t22.2.2.2 + 8)) fun t100 =>
 Js (J0 t78 t100 0) fun t101 =>
 Js (gI (t22.2.2.2 + 8)) fun t107 =>
 Js (Qp t101.kao t107 t101.kao.length) fun t108 =>
 Jay t101.kab (Vn t101.kao t107 t108.length t59)) (Js (Wc t39.1) fun t113 =>
 Qe (decide (4 < t113)) (Js (Wc t39.1) fun t117 =>
 Ja2 a0 t22 t59 t78 (decide ((t59.length : Int) ≤ t117))) (Ja2 a0 t22 t59 t78 false)))))))
def Jbd (a1 : (List UInt8)) (x5_2 : Int) (x10_2 : Int) (next1 : ((Int × Int) → Option (Int))) (x7 : Int) : Option (Int) :=
 Js (gShl x5_2 8) fun t21 =>
 Js (gOct a1 x7) fun t24 =>
 Js (gK (-9223372036854775808) 9223372036854775807 t24) fun t25 =>
 Js (gI (x10_2 + 1)) fun t27 =>
 next1 ((Jap (bOr 64 t21 t25)), t27)
def Wf (a0 : Bool) (a1 : (List UInt8)) (next1 : ((Int × Int) → Option (Int))) (x5_2 : Int) (x10_2 : Int) : Option (Int) :=
 Qe (decide (x10_2 < (a1.length : Int))) (Js (gI ((a1.length : Int) - 1)) fun t15 =>
 Js (gI (t15 - x10_2)) fun t17 =>
 Qe a0 (Jbd a1 x5_2 x10_2 next1 x10_2) (Jbd a1 x5_2 x10_2 next1 t17)) (some x5_2)
def Qs (a0 : Bool) (a1 : (List UInt8)) : Option (Int) :=
 Vv (fun next1 s => Wf a0 a1 next1 s.1 s.2) (0, 0)
def Q4 (a0 : Tf) (a1 : Int) (a2 : Int) : Option (Int) :=
 Js (gI (a1 + a2)) fun t18 =>
 Js (Qp a0.s_ a1 t18) fun t19 =>
 Js (Qs a0.kab t19) fun t20 =>
 some t20
def W6 (a0 : Tf) (a1 : Int) (a2 : Int) : Option (Bool) :=
 Qe (decide (8 ≤ a1)) (Qe (decide (a1 ≤ (a0.s_.length : Int))) (Js (gI ((a0.s_.length : Int) - a1)) fun t26 =>
 some (decide (a2 ≤ t26))) (some false)) (some false)
def Jdz (a0 : Int) (x4 : Bool) : Option (Int) :=
 Qe x4 (some 1) (Qe (decide (a0 = 3)) (some 2) (Qe (decide (a0 = 4)) (Qe (decide (a0 = 4)) (some 4) (Qe (decide (a0 = 5)) (some 8) (some 0))) (Qe (decide (a0 = 9)) (Qe (decide (a0 = 9)) (some 4) (Qe (decide (a0 = 5)) (some 8) (some 0))) (Qe (decide (a0 = 13)) (some 4) (Qe (decide (a0 = 5)) (some 8) (some 0))))))
def Jdx (a0 : Int) : Option (Int) :=
 Qe (decide (a0 = 1)) (Jdz a0 (decide (a0 = 1))) (Qe (decide (a0 = 2)) (Jdz a0 (decide (a0 = 2))) (Jdz a0 (decide (a0 = 7))))
def Y7 (a0 : (List UInt8)) (a1 : Int) : Option (Int) :=
 Js (gIxB a0 a1) fun t7 =>
 some t7
def V0 (a0 : (List UInt8)) (a1 : Int) : Option (Int) :=
 Js (Y7 a0 a1) fun t7 =>
 some t7
def Z8 (a0 : Tf) (a1 : Int) (a3 : (List UInt8)) (t21 : (Int)) (l : (List Tc)) (m : Int) (m_2 : Int) (m_3 : (List UInt8)) (l_2 : (List Int)) (l_3 : (List Tg)) : Option (Te × Int × Tf) :=
 some ((⟨t21, m_3, l_2, l_3, ([] : List Ta)⟩ : Te), 0, (⟨a0.s_, a0.kab, a0.kam, l, (Yp a0.kaf a3 (⟨a1, m, m_2⟩ : Td))⟩ : Tf))
def Zh (a0 : Tf) (a1 : Int) (a3 : (List UInt8)) (t21 : (Int)) (l : (List Tc)) (m : Int) (m_2 : Int) (next3 : (((List UInt8) × (List Tg)) → Option (Te × Int × Tf))) (x16_2 : (List UInt8)) (l_5 : (List Tg)) : Option (Te × Int × Tf) :=
 Qe (decide (x16_2 ≠ [])) (Js (Qp x16_2 0 4) fun t187 =>
 Js (Qs a0.kab t187) fun t188 =>
 Js (Qp x16_2 4 8) fun t194 =>
 Js (Qs a0.kab t194) fun t195 =>
 Js (Wb 16 l_5 ([(⟨t188, t195⟩ : Tg)] : List Tg)) fun l198 =>
 Js (Qp x16_2 8 x16_2.length) fun t179 =>
 next3 (t179, l198)) (Z8 a0 a1 a3 t21 l m m_2 [] ([] : List Int) l_5)
def V1 (t33 : (Int)) (x16_4 : (List UInt8)) (l_7 : (List Int)) (next4 : (((List UInt8) × (List Int)) → Option (Te × Int × Tf))) (x17 : Int) : Option (Te × Int × Tf) :=
 Js (Wb 8 l_7 ([x17] : List Int)) fun l144 =>
 Js (Qp x16_4 t33 x16_4.length) fun t122 =>
 next4 (t122, l144)
def Zf (a0 : Tf) (a1 : Int) (a3 : (List UInt8)) (t21 : (Int)) (t33 : (Int)) (l : (List Tc)) (m : Int) (m_2 : Int) (next4 : (((List UInt8) × (List Int)) → Option (Te × Int × Tf))) (x16_4 : (List UInt8)) (l_7 : (List Int)) : Option (Te × Int × Tf) :=
 Qe (decide (x16_4 ≠ [])) (Js (Qp x16_4 0 t33) fun t129 =>
 Js (Qs a0.kab t129) fun t130 =>
 Qe (decide (t21 = 9)) (Qe (decide (2147483648 ≤ t130)) (Js (gI (t130 - 4294967296)) fun t139 =>
 V1 t33 x16_4 l_7 next4 t139) (V1 t33 x16_4 l_7 next4 t130)) (V1 t33 x16_4 l_7 next4 t130)) (Z8 a0 a1 a3 t21 l m m_2 [] l_7 ([] : List Tg))
def Ue (a0 : Tf) (a1 : Int) (a3 : (List UInt8)) (t21 : (Int)) (t33 : (Int)) (t69 : Int) (x13 : Int) (l : (List Tc)) (m : Int) (m_2 : Int) : Option (Te × Int × Tf) :=
 Js (gI (x13 + t69)) fun t114 =>
 Js (Qp a0.s_ x13 t114) fun t115 =>
 Qe (decide (t21 = 2)) (Qe (decide (t115 = [])) (some ((⟨t21, [], ([] : List Int), ([] : List Tg), ([] : List Ta)⟩ : Te), 1, (⟨a0.s_, a0.kab, a0.kam, l, (Yp a0.kaf a3 (⟨a1, m, m_2⟩ : Td))⟩ : Tf))) (Js (gI ((t115.length : Int) - 1)) fun t154 =>
 Js (gOct t115 t154) fun t155 =>
 Qe (decide (t155 ≠ 0)) (some ((⟨t21, [], ([] : List Int), ([] : List Tg), ([] : List Ta)⟩ : Te), 1, (⟨a0.s_, a0.kab, a0.kam, l, (Yp a0.kaf a3 (⟨a1, m, m_2⟩ : Td))⟩ : Tf))) (Js (gI ((t115.length : Int) - 1)) fun t162 =>
 Js (Qp t115 0 t162) fun t163 =>
 Js (V0 t163 0) fun t167 =>
 Qe (decide (0 ≤ t167)) (some ((⟨t21, t163, ([] : List Int), ([] : List Tg), ([] : List Ta)⟩ : Te), 9, (⟨a0.s_, a0.kab, a0.kam, l, (Yp a0.kaf a3 (⟨a1, m, m_2⟩ : Td))⟩ : Tf))) (Z8 a0 a1 a3 t21 l m m_2 t163 ([] : List Int) ([] : List Tg))))) (Qe (decide (t21 = 7)) (Z8 a0 a1 a3 t21 l m m_2 t115 ([] : List Int) ([] : List Tg)) (Qe (decide (t21 = 5)) (Vv (fun next3 s => Zh a0 a1 a3 t21 l m m_2 next3 s.1 s.2) (t115, ([] : List Tg))) (Vv (fun next4 s => Zf a0 a1 a3 t21 t33 l m m_2 next4 s.1 s.2) (t115, ([] : List Int)))))
def Xt (self : (Tf × Int × Int × Int × Bool × (List UInt8)) → Option ((List Ta) × Int × Int × Tf)) (a0 : Tf) (a1 : Int) (a2 : Int) (a3 : (List UInt8)) : Option (Te × Int × Tf) :=
 Js (gI (a1 + 2)) fun t20 =>
 Js (Q4 a0 t20 2) fun t21 =>
 Js (gI (a1 + 4)) fun t25 =>
 Js (Q4 a0 t25 4) fun t26 =>
 Js (gI (a1 + 8)) fun t29 =>
 Js (Q4 a0 t29 4) fun t30 =>
 Js (Jdx t21) fun t33 =>
 Qe (decide (t33 = 0)) (some ((⟨t21, [], ([] : List Int), ([] : List Tg), ([] : List Ta)⟩ : Te), 10, a0)) (Qe (decide (t21 = 13)) (Qe (decide (t26 ≠ 1)) (some ((⟨t21, [], ([] : List Int), ([] : List Tg), ([] : List Ta)⟩ : Te), 1, a0)) (Js (gI (a2 + 1)) fun t56 =>
 Js (self ((⟨a0.s_, a0.kab, a0.kam, a0.kaa, (Yp a0.kaf a3 (⟨a1, 0, 0⟩ : Td))⟩ : Tf), t30, t56, 0, true, a3)) fun t58 =>
 some ((⟨t21, [], ([] : List Int), ([] : List Tg), t58.1⟩ : Te), t58.2.2.1, t58.2.2.2))) (Js (gI (a1 + 8)) fun t66 =>
 Js (gI (t26 * t33)) fun t69 =>
 Qe (decide (4 < t69)) (Js (W6 a0 t30 t69) fun t78 =>
 Qe (!t78) (some ((⟨t21, [], ([] : List Int), ([] : List Tg), ([] : List Ta)⟩ : Te), 2, a0)) (Js (gI (t30 + t69)) fun t89 =>
 Js (Wb 16 a0.kaa ([(⟨t30, t89⟩ : Tc)] : List Tc)) fun l92 =>
 Js (gI (t30 + t69)) fun t98 =>
 Ue a0 a1 a3 t21 t33 t69 t30 l92 t30 t98)) (Ue a0 a1 a3 t21 t33 t69 t66 a0.kaa 0 0)))
def Jcw (x13 : Int) (m : (List UInt8)) (m_2 : Bool) (mp : (List (Int × Bool))) (l : (List Tc)) (mp_2 : (List ((List UInt8) × Td))) (l_2 : (List Ta)) : Option ((List Ta) × Int × Int × Tf) :=
 some (l_2, x13, 0, (⟨m, m_2, mp, l, mp_2⟩ : Tf))
def Vl (self : (Tf × Int × Int × Int × Bool × (List UInt8)) → Option ((List Ta) × Int × Int × Tf)) (x1_2 : Int) (x2_2 : Int) (x5_2 : (List UInt8)) (x13_3 : Int) (x84_2 : Int) (x85_2 : Int) (m_5 : (List UInt8)) (m_6 : Bool) (mp_5 : (List (Int × Bool))) (l_5 : (List Tc)) (mp_6 : (List ((List UInt8) × Td))) (l_6 : (List Ta)) (next3 : ((Int × Int × (List UInt8) × Int × Int × Int × (List UInt8) × Bool × (List (Int × Bool)) × (List Tc) × (List ((List UInt8) × Td)) × (List Ta)) → Option ((List Ta) × Int × Int × Tf))) (t92 : Int) (t95 : (Int)) : Option ((List Ta) × Int × Int × Tf) :=
 Js (Zo x5_2 [32]) fun t115 =>
 Js (gItoa t95) fun t118 =>
 Js (Zo t115 t118) fun t119 =>
 Js (Xt self (⟨m_5, m_6, mp_5, l_5, mp_6⟩ : Tf) t92 x2_2 t119) fun t120 =>
 Qe (decide (t120.2.1 ≠ 0)) (some (([] : List Ta), 0, t120.2.1, t120.2.2)) (Js (Wb 104 l_6 ([(⟨t95, t120.1⟩ : Ta)] : List Ta)) fun l130 =>
 Js (gI (x85_2 + 1)) fun t131 =>
 next3 (x1_2, x2_2, x5_2, x13_3, x84_2, t131, t120.2.2.s_, t120.2.2.kab, t120.2.2.kam, t120.2.2.kaa, t120.2.2.kaf, l130))
def Xq (self : (Tf × Int × Int × Int × Bool × (List UInt8)) → Option ((List Ta) × Int × Int × Tf)) (next3 : ((Int × Int × (List UInt8) × Int × Int × Int × (List UInt8) × Bool × (List (Int × Bool)) × (List Tc) × (List ((List UInt8) × Td)) × (List Ta)) → Option ((List Ta) × Int × Int × Tf))) (x1_2 : Int) (x2_2 : Int) (x5_2 : (List UInt8)) (x13_3 : Int) (x84_2 : Int) (x85_2 : Int) (m_5 : (List UInt8)) (m_6 : Bool) (mp_5 : (List (Int × Bool))) (l_5 : (List Tc)) (mp_6 : (List ((List UInt8) × Td))) (l_6 : (List Ta)) : Option ((List Ta) × Int × Int × Tf) :=
 Qe (decide (x85_2 < x84_2)) (Js (gI (x1_2 + 2)) fun t89 =>
 Js (gI (12 * x85_2)) fun t91 =>
 Js (gI (t89 + t91)) fun t92 =>
 Js (Q4 (⟨m_5, m_6, mp_5, l_5, mp_6⟩ : Tf) t92 2) fun t95 =>
 Qe (decide (0 < x85_2)) (Js (gI (x85_2 - 1)) fun t104 =>
 Js (Zb l_6 t104) fun t105 =>
 Qe (decide (t95 ≤ t105.Tag)) (some (([] : List Ta), 0, 5, (⟨m_5, m_6, mp_5, l_5, mp_6⟩ : Tf))) (Vl self x1_2 x2_2 x5_2 x13_3 x84_2 x85_2 m_5 m_6 mp_5 l_5 mp_6 l_6 next3 t92 t95)) (Vl self x1_2 x2_2 x5_2 x13_3 x84_2 x85_2 m_5 m_6 mp_5 l_5 mp_6 l_6 next3 t92 t95)) (Jcw x13_3 m_5 m_6 mp_5 l_5 mp_6 l_6)
def Y3 (a0 : Tf) (a1 : Int) (a2 : Int) (a5 : (List UInt8)) (self : (Tf × Int × Int × Int × Bool × (List UInt8)) → Option ((List Ta) × Int × Int × Tf)) (t36 : (Int)) (l69 : (List Tc)) (t78 : (Int)) : Option ((List Ta) × Int × Int × Tf) :=
 Vv (fun next3 s => Xq self next3 s.1 s.2.1 s.2.2.1 s.2.2.2.1 s.2.2.2.2.1 s.2.2.2.2.2.1 s.2.2.2.2.2.2.1 s.2.2.2.2.2.2.2.1 s.2.2.2.2.2.2.2.2.1 s.2.2.2.2.2.2.2.2.2.1 s.2.2.2.2.2.2.2.2.2.2.1 s.2.2.2.2.2.2.2.2.2.2.2) (a1, a2, a5, t78, t36, 0, a0.s_, a0.kab, (Yp a0.kam a1 true), l69, a0.kaf, ([] : List Ta))
def Qy (self : (Tf × Int × Int × Int × Bool × (List UInt8)) → Option ((List Ta) × Int × Int × Tf)) (a0 : Tf) (a1 : Int) (a2 : Int) (a3 : Int) (a4 : Bool) (a5 : (List UInt8)) : Option ((List Ta) × Int × Int × Tf) :=
 Js (W6 a0 a1 2) fun t21 =>
 Qe (!t21) (some (([] : List Ta), 0, 2, a0)) (Qe ((Q2 a0.kam a1).getD false) (some (([] : List Ta), 0, 13, a0)) (Js (Q4 (⟨a0.s_, a0.kab, (Yp a0.kam a1 true), a0.kaa, a0.kaf⟩ : Tf) a1 2) fun t36 =>
 Qe (decide (20 ≤ a3)) (some (([] : List Ta), 0, 4, (⟨a0.s_, a0.kab, (Yp a0.kam a1 true), a0.kaa, a0.kaf⟩ : Tf))) (Qe (decide (5 < a2)) (some (([] : List Ta), 0, 4, (⟨a0.s_, a0.kab, (Yp a0.kam a1 true), a0.kaa, a0.kaf⟩ : Tf))) (Qe (decide (200 < t36)) (some (([] : List Ta), 0, 4, (⟨a0.s_, a0.kab, (Yp a0.kam a1 true), a0.kaa, a0.kaf⟩ : Tf))) (Js (gI (12 * t36)) fun t50 =>
 Js (gI (2 + t50)) fun t51 =>
 Js (gI (t51 + 4)) fun t52 =>
 Js (W6 (⟨a0.s_, a0.kab, (Yp a0.kam a1 true), a0.kaa, a0.kaf⟩ : Tf) a1 t52) fun t53 =>
 Qe (!t53) (some (([] : List Ta), 0, 2, (⟨a0.s_, a0.kab, (Yp a0.kam a1 true), a0.kaa, a0.kaf⟩ : Tf))) (Js (gI (a1 + 2)) fun t62 =>
 Js (gI (12 * t36)) fun t64 =>
 Js (gI (t62 + t64)) fun t65 =>
 Js (gI (t65 + 4)) fun t66 =>
 Js (Wb 16 a0.kaa ([(⟨a1, t66⟩ : Tc)] : List Tc)) fun l69 =>
 Js (gI (a1 + 2)) fun t74 =>
 Js (gI (12 * t36)) fun t76 =>
 Js (gI (t74 + t76)) fun t77 =>
 Js (Q4 (⟨a0.s_, a0.kab, (Yp a0.kam a1 true), l69, a0.kaf⟩ : Tf) t77 4) fun t78 =>
 Qe a4 (Qe (decide (t78 ≠ 0)) (some (([] : List Ta), 0, 1, (⟨a0.s_, a0.kab, (Yp a0.kam a1 true), l69, a0.kaf⟩ : Tf))) (Y3 a0 a1 a2 a5 self t36 l69 t78)) (Y3 a0 a1 a2 a5 self t36 l69 t78)))))))
def Jaz (a0 : Tf) (a1 : Int) (a2 : Int) (a3 : Int) (a4 : Bool) (a5 : (List UInt8)) : Option ((List Ta) × Int × Int × Tf) :=
 Vv (fun (self : (Tf × Int × Int × Int × Bool × (List UInt8)) → Option ((List Ta) × Int × Int × Tf)) (s : Tf × Int × Int × Int × Bool × (List UInt8)) => Qy self s.1 s.2.1 s.2.2.1 s.2.2.2.1 s.2.2.2.2.1 s.2.2.2.2.2) (a0, a1, a2, a3, a4, a5)
def Zm (a0 : Tc) (a1 : Tc) : Option (Int) :=
 Js (cmp_Compare_int a0.From a1.From) fun t9 =>
 some t9
def Je2 (a0 : Int) : Option (Int × Int) :=
 Qe (decide (a0 = 1)) (some (0, 255)) (Qe (decide (a0 = 3)) (some (0, 65535)) (Qe (decide (a0 = 9)) (some ((-2147483648), 2147483647)) (some (0, 4294967295))))
def W7 (a0 : Te) : Option (Int) :=
 Qe (decide (a0.kai = 13)) (none) (some 0)
def V6 (a0 : Te) : Option (Int) :=
 Qe (decide (a0.kai = 2)) (Js (V0 a0.kaj 0) fun t130 =>
 Qe (decide (0 ≤ t130)) (some 9) (W7 a0)) (W7 a0)
def Yl (a0 : Te) (next6 : ((Int) → Option (Int))) (x101_2 : Int) : Option (Int) :=
 Qe (decide (x101_2 < (a0.kah.length : Int))) (Js (Zb a0.kah x101_2) fun t103 =>
 Qe (decide (t103.Num < 0)) (some 2) (Qe (decide (4294967295 < t103.Num)) (some 2) (Qe (decide (t103.Den < 0)) (some 2) (Qe (decide (4294967295 < t103.Den)) (some 2) (Js (gI (x101_2 + 1)) fun t123 =>
 next6 t123))))) (V6 a0)
def V4 (a0 : Te) : Option (Int) :=
 Vv (fun next6 s => Yl a0 next6 s) 0
def Yk (a0 : Te) (t79 : (Int × Int)) (next7 : ((Int) → Option (Int))) (x85_2 : Int) : Option (Int) :=
 Qe (decide (x85_2 < (a0.kak.length : Int))) (Js (Zb a0.kak x85_2) fun t87 =>
 Qe (decide (t87 < t79.1)) (some 2) (Qe (decide (t79.2 < t87)) (some 2) (Js (gI (x85_2 + 1)) fun t97 =>
 next7 t97))) (V4 a0)
def X7 (a0 : Te) : Option (Int) :=
 Js (Je2 a0.kai) fun t79 =>
 Vv (fun next7 s => Yk a0 t79 next7 s) 0
def Vq (a0 : Te) (x42_3 : Bool) : Option (Int) :=
 Qe x42_3 (Qe x42_3 (some 1) (X7 a0)) (Qe (decide (0 < (a0.kag.length : Int))) (Qe (decide (a0.kai ≠ 13)) (some 1) (X7 a0)) (X7 a0))
def V9 (a0 : Te) (x42_2 : Bool) : Option (Int) :=
 Qe x42_2 (Qe x42_2 (some 1) (X7 a0)) (Qe (decide (0 < (a0.kah.length : Int))) (Vq a0 (decide (a0.kai ≠ 5))) (Vq a0 false))
def V7 (a0 : Te) (x4 : Bool) (x42 : Bool) : Option (Int) :=
 Qe x42 (Qe x42 (some 1) (X7 a0)) (Qe (decide (0 < (a0.kak.length : Int))) (V9 a0 (!x4)) (V9 a0 false))
def X9 (a0 : Te) (x3 : Bool) (x4 : Bool) : Option (Int) :=
 Js (Jdx a0.kai) fun t40 =>
 Qe (decide (t40 = 0)) (some 10) (Qe (decide (a0.kaj ≠ [])) (V7 a0 x4 (!x3)) (V7 a0 x4 false))
def U6 (a0 : Te) : Option (Int) :=
 Qe (decide (a0.kai = 2)) (Qe (decide (a0.kai = 1)) (X9 a0 true true) (Qe (decide (a0.kai = 3)) (X9 a0 true true) (Qe (decide (a0.kai = 4)) (X9 a0 true true) (X9 a0 true (decide (a0.kai = 9)))))) (Qe (decide (a0.kai = 1)) (X9 a0 (decide (a0.kai = 7)) true) (Qe (decide (a0.kai = 3)) (X9 a0 (decide (a0.kai = 7)) true) (Qe (decide (a0.kai = 4)) (X9 a0 (decide (a0.kai = 7)) true) (X9 a0 (decide (a0.kai = 7)) (decide (a0.kai = 9))))))
def Jbf (x19_2 : Int) (next1 : ((Int) → Option (Int))) (x29 : Int) (x30 : Bool) (m : Int) (m_2 : Int) (m_3 : (List UInt8)) (m_4 : (List Int)) (m_5 : (List Tg)) (m_6 : (List Ta)) : Option (Int) :=
 Js (gI (x19_2 + 1)) fun t78 =>
 next1 t78
def Jcj (a1 : Int) (self : ((List Ta) × Int) → Option (Int)) (x19_2 : Int) (next1 : ((Int) → Option (Int))) (t22 : Ta) : Option (Int) :=
 Qe (decide (t22.Value.kai ≠ 13)) (Js (U6 t22.Value) fun t51 =>
 Qe (decide (t51 ≠ 0)) (some t51) (Jbf x19_2 next1 t22.Tag (decide (65535 < t22.Tag)) t22.Tag t22.Value.kai t22.Value.kaj t22.Value.kak t22.Value.kah t22.Value.kag)) (Qe (decide (t22.Value.kaj ≠ [])) (some 1) (Qe (decide (0 < (t22.Value.kak.length : Int))) (some 1) (Qe (decide (0 < (t22.Value.kah.length : Int))) (some 1) (Js (gI (a1 + 1)) fun t73 =>
 Js (self (t22.Value.kag, t73)) fun t74 =>
 Qe (decide (t74 ≠ 0)) (some t74) (Jbf x19_2 next1 t22.Tag (decide (65535 < t22.Tag)) t22.Tag t22.Value.kai t22.Value.kaj t22.Value.kak t22.Value.kah t22.Value.kag)))))
def Jbg (a0 : (List Ta)) (a1 : Int) (self : ((List Ta) × Int) → Option (Int)) (next1 : ((Int) → Option (Int))) (x19_2 : Int) : Option (Int) :=
 Qe (decide (x19_2 < (a0.length : Int))) (Js (Zb a0 x19_2) fun t22 =>
 Qe (decide (t22.Tag < 0)) (some 2) (Qe (decide (65535 < t22.Tag)) (some 2) (Qe (decide (0 < x19_2)) (Js (gI (x19_2 - 1)) fun t39 =>
 Js (Zb a0 t39) fun t40 =>
 Qe (decide (t22.Tag ≤ t40.Tag)) (some 5) (Jcj a1 self x19_2 next1 t22)) (Jcj a1 self x19_2 next1 t22)))) (some 0)
def Vj (self : ((List Ta) × Int) → Option (Int)) (a0 : (List Ta)) (a1 : Int) : Option (Int) :=
 Qe (decide (5 < a1)) (some 4) (Qe (decide (200 < (a0.length : Int))) (some 4) (Vv (fun next1 s => Jbg a0 a1 self next1 s) 0))
def Jda (a0 : (List Ta)) (a1 : Int) : Option (Int) :=
 Vv (fun (self : ((List Ta) × Int) → Option (Int)) (s : (List Ta) × Int) => Vj self s.1 s.2) (a0, a1)
def Wp (a0 : Te) : Option (Int) :=
 Qe (decide (a0.kai = 13)) (Js (Jda a0.kag 1) fun t138 =>
 some t138) (some 0)
def Wo (a0 : Te) : Option (Int) :=
 Qe (decide (a0.kai = 2)) (Js (V0 a0.kaj 0) fun t130 =>
 Qe (decide (0 ≤ t130)) (some 9) (Wp a0)) (Wp a0)
def Vr (a0 : Te) (next6 : ((Int) → Option (Int))) (x101_2 : Int) : Option (Int) :=
 Qe (decide (x101_2 < (a0.kah.length : Int))) (Js (Zb a0.kah x101_2) fun t103 =>
 Qe (decide (t103.Num < 0)) (some 2) (Qe (decide (4294967295 < t103.Num)) (some 2) (Qe (decide (t103.Den < 0)) (some 2) (Qe (decide (4294967295 < t103.Den)) (some 2) (Js (gI (x101_2 + 1)) fun t123 =>
 next6 t123))))) (Wo a0)
def Un (a0 : Te) : Option (Int) :=
 Vv (fun next6 s => Vr a0 next6 s) 0
def Vp (a0 : Te) (t79 : (Int × Int)) (next7 : ((Int) → Option (Int))) (x85_2 : Int) : Option (Int) :=
 Qe (decide (x85_2 < (a0.kak.length : Int))) (Js (Zb a0.kak x85_2) fun t87 =>
 Qe (decide (t87 < t79.1)) (some 2) (Qe (decide (t79.2 < t87)) (some 2) (Js (gI (x85_2 + 1)) fun t97 =>
 next7 t97))) (Un a0)
def Yo (a0 : Te) : Option (Int) :=
 Js (Je2 a0.kai) fun t79 =>
 Vv (fun next7 s => Vp a0 t79 next7 s) 0
def Zg (a0 : Te) (x42_3 : Bool) : Option (Int) :=
 Qe x42_3 (Qe x42_3 (some 1) (Yo a0)) (Qe (decide (0 < (a0.kag.length : Int))) (Qe (decide (a0.kai ≠ 13)) (some 1) (Yo a0)) (Yo a0))
def Zu (a0 : Te) (x42_2 : Bool) : Option (Int) :=
 Qe x42_2 (Qe x42_2 (some 1) (Yo a0)) (Qe (decide (0 < (a0.kah.length : Int))) (Zg a0 (decide (a0.kai ≠ 5))) (Zg a0 false))
def Zx (a0 : Te) (x4 : Bool) (x42 : Bool) : Option (Int) :=
 Qe x42 (Qe x42 (some 1) (Yo a0)) (Qe (decide (0 < (a0.kak.length : Int))) (Zu a0 (!x4)) (Zu a0 false))
def Xy (a0 : Te) (x3 : Bool) (x4 : Bool) : Option (Int) :=
 Js (Jdx a0.kai) fun t40 =>
 Qe (decide (t40 = 0)) (some 10) (Qe (decide (a0.kaj ≠ [])) (Zx a0 x4 (!x3)) (Zx a0 x4 false))
def Wg (a0 : Te) : Option (Int) :=
 Qe (decide (a0.kai = 2)) (Qe (decide (a0.kai = 1)) (Xy a0 true true) (Qe (decide (a0.kai = 3)) (Xy a0 true true) (Qe (decide (a0.kai = 4)) (Xy a0 true true) (Xy a0 true (decide (a0.kai = 9)))))) (Qe (decide (a0.kai = 1)) (Xy a0 (decide (a0.kai = 7)) true) (Qe (decide (a0.kai = 3)) (Xy a0 (decide (a0.kai = 7)) true) (Qe (decide (a0.kai = 4)) (Xy a0 (decide (a0.kai = 7)) true) (Xy a0 (decide (a0.kai = 7)) (decide (a0.kai = 9))))))
def Jib (l : (List Int)) : Option ((List UInt8)) :=
 some (Ja7 l)
def Jcn (a1 : Int) (x14_2 : Int) (l_3 : (List Int)) (next2 : ((Int × (List Int)) → Option ((List UInt8)))) (x9 : Int) : Option ((List UInt8)) :=
 Js (gI (8 * x14_2)) fun t27 =>
 Js (gShr 64 a1 t27) fun t28 =>
 Js (Zb l_3 x9) fun t30 =>
 Js (gSet l_3 x9 (wU8 t28)) fun l0 =>
 Js (gI (x14_2 + 1)) fun t31 =>
 next2 (t31, l0)
def Ud (a0 : Bool) (a1 : Int) (a2 : Int) (t11 : (List Int)) (next2 : ((Int × (List Int)) → Option ((List UInt8)))) (x14_2 : Int) (l_3 : (List Int)) : Option ((List UInt8)) :=
 Qe (decide (x14_2 < (t11.length : Int))) (Qe a0 (Js (gI (a2 - 1)) fun t20 =>
 Js (gI (t20 - x14_2)) fun t22 =>
 Jcn a1 x14_2 l_3 next2 t22) (Jcn a1 x14_2 l_3 next2 x14_2)) (Jib l_3)
def Yt (a0 : Bool) (a1 : Int) (a2 : Int) : Option ((List UInt8)) :=
 Js (gMake 1 a2 0) fun t11 =>
 Vv (fun next2 s => Ud a0 a1 a2 t11 next2 s.1 s.2) (0, t11)
def Jk (a0 : Ti) (a1 : Int) (a2 : Int) (a3 : Int) : Option (Ti) :=
 Js (Qp a0.s_ 0 a1) fun t14 =>
 Js (Yt a0.kab a2 a3) fun t21 =>
 Js (Zo t14 t21) fun t22 =>
 Js (gI (a1 + a3)) fun t29 =>
 Js (Qp a0.s_ t29 a0.s_.length) fun t30 =>
 Js (Zo t22 t30) fun t31 =>
 some (⟨t31, a0.kab⟩ : Ti)
def Ux (a0 : Bool) (a1 : Te) (next3 : (((List UInt8) × Int) → Option ((List UInt8)))) (x5_4 : (List UInt8)) (x36_2 : Int) : Option ((List UInt8)) :=
 Qe (decide (x36_2 < (a1.kah.length : Int))) (Js (Zb a1.kah x36_2) fun t38 =>
 Js (Yt a0 t38.Num 4) fun t44 =>
 Js (Yt a0 t38.Den 4) fun t48 =>
 Js (Zo t44 t48) fun t49 =>
 Js (Zo x5_4 t49) fun t50 =>
 Js (gI (x36_2 + 1)) fun t51 =>
 next3 (t50, t51)) (some x5_4)
def Jck (a0 : Bool) (a1 : Te) (x5_2 : (List UInt8)) : Option ((List UInt8)) :=
 Vv (fun next3 s => Ux a0 a1 next3 s.1 s.2) (x5_2, 0)
def Uu (a0 : Bool) (a1 : Te) (next4 : (((List UInt8) × Int) → Option ((List UInt8)))) (x5_6 : (List UInt8)) (x20_2 : Int) : Option ((List UInt8)) :=
 Qe (decide (x20_2 < (a1.kak.length : Int))) (Js (Zb a1.kak x20_2) fun t22 =>
 Js (Jdx a1.kai) fun t29 =>
 Js (Yt a0 t22 t29) fun t30 =>
 Js (Zo x5_6 t30) fun t31 =>
 Js (gI (x20_2 + 1)) fun t32 =>
 next4 (t31, t32)) (Jck a0 a1 x5_6)
def Jcm (a0 : Bool) (a1 : Te) (x5 : (List UInt8)) : Option ((List UInt8)) :=
 Vv (fun next4 s => Uu a0 a1 next4 s.1 s.2) (x5, 0)
def Zp (a0 : Bool) (a1 : Te) : Option ((List UInt8)) :=
 Qe (decide (a1.kai = 2)) (Js (Zo a1.kaj [0]) fun t16 =>
 Jcm a0 a1 t16) (Jcm a0 a1 a1.kaj)
def Qx (a0 : Te) : Option (Int) :=
 Qe (decide (a0.kai = 13)) (some 1) (Js (Zp false a0) fun t7 =>
 Js (Jdx a0.kai) fun t11 =>
 Js (gQuo (t7.length : Int) t11) fun t12 =>
 some t12)
def Wn (a0 : Ti) (a1 : (List UInt8)) (m : (List UInt8)) : Option (Int × Ti) :=
 Js (Zo m a1) fun t30 =>
 some ((m.length : Int), (⟨t30, a0.kab⟩ : Ti))
def Qo (a0 : Ti) (a1 : (List UInt8)) : Option (Int × Ti) :=
 Js (gRem (a0.s_.length : Int) 2) fun t11 =>
 Qe (decide (t11 = 1)) (Js (Zo a0.s_ [0]) fun t17 =>
 Wn a0 a1 t17) (Wn a0 a1 a0.s_)
def Wk (x25_2 : Int) (next1 : ((Int × (List UInt8) × Bool) → Option (Int × Ti))) (m_5 : (List UInt8)) (m_6 : Bool) : Option (Int × Ti) :=
 Js (gI (x25_2 + 1)) fun t107 =>
 next1 (t107, m_5, m_6)
def Zt (a1 : (List Ta)) (self : (Ti × (List Ta)) → Option (Int × Ti)) (t17 : (Int × Ti)) (next1 : ((Int × (List UInt8) × Bool) → Option (Int × Ti))) (x25_2 : Int) (m_3 : (List UInt8)) (m_4 : Bool) : Option (Int × Ti) :=
 Qe (decide (x25_2 < (a1.length : Int))) (Js (Zb a1 x25_2) fun t28 =>
 Js (gI (t17.1 + 2)) fun t31 =>
 Js (gI (12 * x25_2)) fun t33 =>
 Js (gI (t31 + t33)) fun t34 =>
 Js (Jk (⟨m_3, m_4⟩ : Ti) t34 t28.Tag 2) fun t39 =>
 Js (gI (t34 + 2)) fun t42 =>
 Js (Jk t39 t42 t28.Value.kai 2) fun t46 =>
 Js (gI (t34 + 4)) fun t49 =>
 Js (Qx t28.Value) fun t52 =>
 Js (Jk t46 t49 t52 4) fun t53 =>
 Qe (decide (t28.Value.kai = 13)) (Js (gI (t34 + 8)) fun t60 =>
 Js (self (t53, t28.Value.kag)) fun t65 =>
 Js (Jk t65.2 t60 t65.1 4) fun t66 =>
 Wk x25_2 next1 t66.s_ t66.kab) (Js (Zp t53.kab t28.Value) fun t73 =>
 Qe (decide (4 < (t73.length : Int))) (Js (gI (t34 + 8)) fun t79 =>
 Js (Qo t53 t73) fun t82 =>
 Js (Jk t82.2 t79 t82.1 4) fun t83 =>
 Wk x25_2 next1 t83.s_ t83.kab) (Js (gI (t34 + 8)) fun t90 =>
 Js (Qp t53.s_ 0 t90) fun t91 =>
 Js (Zo t91 t73) fun t93 =>
 Js (gI (t34 + 8)) fun t99 =>
 Js (gI (t99 + (t73.length : Int))) fun t102 =>
 Js (Qp t53.s_ t102 t53.s_.length) fun t103 =>
 Js (Zo t93 t103) fun t104 =>
 Wk x25_2 next1 t104 t53.kab))) (some (t17.1, (⟨m_3, m_4⟩ : Ti)))
def Y1 (self : (Ti × (List Ta)) → Option (Int × Ti)) (a0 : Ti) (a1 : (List Ta)) : Option (Int × Ti) :=
 Js (gI (12 * (a1.length : Int))) fun t13 =>
 Js (gI (2 + t13)) fun t14 =>
 Js (gI (t14 + 4)) fun t15 =>
 Js (gRep [0] t15) fun t16 =>
 Js (Qo a0 t16) fun t17 =>
 Js (Jk t17.2 t17.1 (a1.length : Int) 2) fun t22 =>
 Vv (fun next1 s => Zt a1 self t17 next1 s.1 s.2.1 s.2.2) (0, t22.s_, t22.kab)
def Jcg (a0 : Ti) (a1 : (List Ta)) : Option (Int × Ti) :=
 Vv (fun (self : (Ti × (List Ta)) → Option (Int × Ti)) (s : Ti × (List Ta)) => Y1 self s.1 s.2) (a0, a1)
def Jid (m_2 : (List UInt8)) (m_3 : Bool) : Option ((List UInt8)) :=
 some m_2
def Uy (a0 : Th) (next3 : ((Int × Int × (List UInt8) × Bool) → Option ((List UInt8)))) (x4_2 : Int) (x37_2 : Int) (m_6 : (List UInt8)) (m_7 : Bool) : Option ((List UInt8)) :=
 Qe (decide (x37_2 < (a0.kap.length : Int))) (Js (Zb a0.kap x37_2) fun t39 =>
 Js (Jcg (⟨m_6, m_7⟩ : Ti) t39) fun t43 =>
 Js (Jk t43.2 x4_2 t43.1 4) fun t47 =>
 Js (gI (t43.1 + 2)) fun t49 =>
 Js (gI (12 * (t39.length : Int))) fun t52 =>
 Js (gI (t49 + t52)) fun t53 =>
 Js (gI (x37_2 + 1)) fun t54 =>
 next3 (t53, t54, t47.s_, t47.kab)) (Jid m_6 m_7)
def Jcl (a0 : Th) (m : (List UInt8)) : Option ((List UInt8)) :=
 Js (Yt a0.Big 42 2) fun t26 =>
 Js (Yt a0.Big 0 4) fun t29 =>
 Js (Zo t26 t29) fun t30 =>
 Js (Zo m t30) fun t31 =>
 Vv (fun next3 s => Uy a0 next3 s.1 s.2.1 s.2.2.1 s.2.2.2) (4, 0, t31, a0.Big)
def Jgw (a0 : Th) : Option ((List UInt8)) :=
 Qe a0.Big (Jcl a0 [77, 77]) (Jcl a0 [73, 73])
def Jdg (a0 : Th) : Option (Int) :=
 Js (Jgw a0) fun t24 =>
 Qe (decide (65000 < (t24.length : Int))) (some 4) (some 0)
def Vy (a0 : Th) (next2 : ((Int) → Option (Int))) (x13_2 : Int) : Option (Int) :=
 Qe (decide (x13_2 < (a0.kap.length : Int))) (Js (Zb a0.kap x13_2) fun t15 =>
 Js (Jda t15 1) fun t18 =>
 Qe (decide (t18 ≠ 0)) (some t18) (Js (gI (x13_2 + 1)) fun t22 =>
 next2 t22)) (Jdg a0)
def Jdr (a0 : Th) : Option (Int) :=
 Qe (decide (20 < (a0.kap.length : Int))) (some 4) (Vv (fun next2 s => Vy a0 next2 s) 0)
section
variable {Rq : Type}
def V5 (kq : (Th × Int × Tf) → Option Rq) (t54 : Int) (m : (List UInt8)) (m_2 : Bool) (mp : (List (Int × Bool))) (mp_2 : (List ((List UInt8) × Td))) (l_2 : (List (List Ta))) (t100 : ((List Tc))) : Option (Rq) :=
 Js (Jdr (⟨(decide (t54 = 77)), l_2⟩ : Th)) fun t130 =>
 Qe (decide (t130 ≠ 0)) (kq ((⟨false, ([] : List (List Ta))⟩ : Th), t130, (⟨m, m_2, mp, t100, mp_2⟩ : Tf))) (kq ((⟨(decide (t54 = 77)), l_2⟩ : Th), 0, (⟨m, m_2, mp, t100, mp_2⟩ : Tf)))
def Zq (kq : (Th × Int × Tf) → Option Rq) (t54 : Int) (m : (List UInt8)) (m_2 : Bool) (mp : (List (Int × Bool))) (mp_2 : (List ((List UInt8) × Td))) (l_2 : (List (List Ta))) (t100 : ((List Tc))) (next4 : ((Int) → Option (Rq))) (x9_2 : Int) : Option (Rq) :=
 Qe (decide (x9_2 < (t100.length : Int))) (Js (Zb t100 x9_2) fun t115 =>
 Js (gI (x9_2 - 1)) fun t123 =>
 Js (Zb t100 t123) fun t124 =>
 Qe (decide (t115.From < t124.To)) (kq ((⟨false, ([] : List (List Ta))⟩ : Th), 6, (⟨m, m_2, mp, t100, mp_2⟩ : Tf))) (Js (gI (x9_2 + 1)) fun t109 =>
 next4 t109)) (V5 kq t54 m m_2 mp mp_2 l_2 t100)
def Jae (kq : (Th × Int × Tf) → Option Rq) (t54 : Int) (m : (List UInt8)) (m_2 : Bool) (mp : (List (Int × Bool))) (mp_2 : (List ((List UInt8) × Td))) (l : (List Tc)) (l_2 : (List (List Ta))) : Option (Rq) :=
 Jgt l Zm fun t100 =>
 Vv (fun next4 s => Zq kq t54 m m_2 mp mp_2 l_2 t100 next4 s) 1
def Y2 (kq : (Th × Int × Tf) → Option Rq) (t54 : Int) (next5 : ((Int × (List UInt8) × Bool × (List (Int × Bool)) × (List ((List UInt8) × Td)) × (List Tc) × (List (List Ta))) → Option (Rq))) (x4_2 : Int) (m_5 : (List UInt8)) (m_6 : Bool) (mp_5 : (List (Int × Bool))) (mp_6 : (List ((List UInt8) × Td))) (l_5 : (List Tc)) (l_6 : (List (List Ta))) : Option (Rq) :=
 Qe (decide (x4_2 ≠ 0)) (Js (gItoa (l_6.length : Int)) fun t80 =>
 Js (Jaz (⟨m_5, m_6, mp_5, l_5, mp_6⟩ : Tf) x4_2 1 (l_6.length : Int) false t80) fun t81 =>
 Qe (decide (t81.2.2.1 ≠ 0)) (kq ((⟨false, ([] : List (List Ta))⟩ : Th), t81.2.2.1, t81.2.2.2)) (Js (Wb 24 l_6 ([t81.1] : List (List Ta))) fun l93 =>
 next5 (t81.2.1, t81.2.2.2.s_, t81.2.2.2.kab, t81.2.2.2.kam, t81.2.2.2.kaf, t81.2.2.2.kaa, l93))) (Jae kq t54 m_5 m_6 mp_5 mp_6 l_5 l_6)
def Jag (a0 : Tf) (kq : (Th × Int × Tf) → Option Rq) : Option (Rq) :=
 Js (gOct a0.s_ 0) fun t54 =>
 Js (Q4 (⟨a0.s_, (decide (t54 = 77)), ([] : (List (Int × Bool))), ([(⟨0, 8⟩ : Tc)] : List Tc), ([] : (List ((List UInt8) × Td)))⟩ : Tf) 4 4) fun t69 =>
 Vv (fun next5 s => Y2 kq t54 next5 s.1 s.2.1 s.2.2.1 s.2.2.2.1 s.2.2.2.2.1 s.2.2.2.2.2.1 s.2.2.2.2.2.2) (t69, a0.s_, (decide (t54 = 77)), ([] : (List (Int × Bool))), ([] : (List ((List UInt8) × Td))), ([(⟨0, 8⟩ : Tc)] : List Tc), ([] : List (List Ta)))
def Z7 (a0 : Tf) (kq : (Th × Int × Tf) → Option Rq) : Option (Rq) :=
 Qe (decide (65000 < (a0.s_.length : Int))) (kq ((⟨false, ([] : List (List Ta))⟩ : Th), 4, (⟨a0.s_, a0.kab, ([] : (List (Int × Bool))), a0.kaa, ([] : (List ((List UInt8) × Td)))⟩ : Tf))) (Qe (decide ((a0.s_.length : Int) < 8)) (kq ((⟨false, ([] : List (List Ta))⟩ : Th), 8, (⟨a0.s_, a0.kab, ([] : (List (Int × Bool))), a0.kaa, ([] : (List ((List UInt8) × Td)))⟩ : Tf))) (Js (Qp a0.s_ 0 4) fun t37 =>
 Qe (decide (t37 ≠ [73, 73, 42, 0])) (Js (Qp a0.s_ 0 4) fun t44 =>
 Qe (decide (t44 ≠ [77, 77, 0, 42])) (kq ((⟨false, ([] : List (List Ta))⟩ : Th), 8, (⟨a0.s_, a0.kab, ([] : (List (Int × Bool))), a0.kaa, ([] : (List ((List UInt8) × Td)))⟩ : Tf))) (Jag a0 kq)) (Jag a0 kq)))
end
def Jco (a0 : Ta) (a1 : Int) : Option (Int) :=
 Js (cmp_Compare_int a0.Tag a1) fun t8 =>
 some t8
def Jb2 (a0 : (List Ta)) (a1 : Int) : Option (Int × Bool) :=
 Js (Yc a0 a1 Jco) fun t8 =>
 some (t8.1, t8.2)
def Jjn (m : Int) (m_2 : (List UInt8)) (m_3 : (List Int)) (m_4 : (List Tg)) (m_5 : (List Ta)) : Option (Te × Bool) :=
 some ((⟨m, m_2, m_3, m_4, m_5⟩ : Te), true)
def Jhk (x40_2 : Int) (next2 : (((List Ta) × Int × Int × (List UInt8) × (List Int) × (List Tg) × (List Ta)) → Option (Te × Bool))) (t56 : Ta) : Option (Te × Bool) :=
 Js (gI (x40_2 + 1)) fun t72 =>
 next2 (t56.Value.kag, t72, t56.Value.kai, t56.Value.kaj, t56.Value.kak, t56.Value.kah, t56.Value.kag)
def Ur (a1 : (List Int)) (t38 : (List Int)) (next2 : (((List Ta) × Int × Int × (List UInt8) × (List Int) × (List Tg) × (List Ta)) → Option (Te × Bool))) (x6_2 : (List Ta)) (x40_2 : Int) (m_11 : Int) (m_12 : (List UInt8)) (m_13 : (List Int)) (m_14 : (List Tg)) (m_15 : (List Ta)) : Option (Te × Bool) :=
 Qe (decide (x40_2 < (t38.length : Int))) (Js (Zb t38 x40_2) fun t43 =>
 Js (Jb2 x6_2 t43) fun t48 =>
 Qe (!t48.2) (some ((⟨0, [], ([] : (List Int)), ([] : (List Tg)), ([] : (List Ta))⟩ : Te), false)) (Js (Zb x6_2 t48.1) fun t56 =>
 Js (gI ((a1.length : Int) - 2)) fun t62 =>
 Qe (decide (x40_2 < t62)) (Qe (decide (t56.Value.kai ≠ 13)) (some ((⟨0, [], ([] : (List Int)), ([] : (List Tg)), ([] : (List Ta))⟩ : Te), false)) (Jhk x40_2 next2 t56)) (Jhk x40_2 next2 t56))) (Jjn m_11 m_12 m_13 m_14 m_15)
def R_Got (a0 : Th) (a1 : (List Int)) : Option (Te × Bool) :=
 Qe (decide ((a1.length : Int) < 2)) (some ((⟨0, [], ([] : (List Int)), ([] : (List Tg)), ([] : (List Ta))⟩ : Te), false)) (Js (Zb a1 0) fun t16 =>
 Qe (decide (t16 < 0)) (some ((⟨0, [], ([] : (List Int)), ([] : (List Tg)), ([] : (List Ta))⟩ : Te), false)) (Js (Zb a1 0) fun t22 =>
 Qe (decide ((a0.kap.length : Int) ≤ t22)) (some ((⟨0, [], ([] : (List Int)), ([] : (List Tg)), ([] : (List Ta))⟩ : Te), false)) (Js (Zb a1 0) fun t33 =>
 Js (Zb a0.kap t33) fun t35 =>
 Js (Qp a1 1 a1.length) fun t38 =>
 Vv (fun next2 s => Ur a1 t38 next2 s.1 s.2.1 s.2.2.1 s.2.2.2.1 s.2.2.2.2.1 s.2.2.2.2.2.1 s.2.2.2.2.2.2) (t35, 0, 0, [], ([] : (List Int)), ([] : (List Tg)), ([] : (List Ta))))))
def Jg0 (l : (List (List UInt8))) : Option ((List UInt8)) :=
 Js (gJoin l [32]) fun t19 =>
 some t19
def Jcp (a0 : (List Int)) (next2 : ((Int × (List (List UInt8))) → Option ((List UInt8)))) (x8_2 : Int) (l_3 : (List (List UInt8))) : Option ((List UInt8)) :=
 Qe (decide (x8_2 < (a0.length : Int))) (Js (Zb a0 x8_2) fun t10 =>
 Js (gItoa t10) fun t14 =>
 Js (Wb 16 l_3 ([t14] : List (List UInt8))) fun l16 =>
 Js (gI (x8_2 + 1)) fun t17 =>
 next2 (t17, l16)) (Jg0 l_3)
def Q3 (a0 : (List Int)) : Option ((List UInt8)) :=
 Vv (fun next2 s => Jcp a0 next2 s.1 s.2) (0, ([] : List (List UInt8)))
def Jeo (a0 : (List UInt8)) : Option (Th × Int) :=
 Z7 (⟨a0, false, ([] : (List (Int × Bool))), ([] : List Tc), ([] : (List ((List UInt8) × Td)))⟩ : Tf) fun t9 =>
 some (t9.1, t9.2.1)
def Y8 (m : (List UInt8)) (m_2 : Bool) : Option ((List UInt8) × Int) :=
 Qe (decide (65000 < (m.length : Int))) (some ([], 4)) (Js (Jeo m) fun t165 =>
 Qe (decide (t165.2 ≠ 0)) (some ([], t165.2)) (some (m, 0)))
def Jbu (a0 : (List UInt8)) (a1 : (List Int)) (a2 : Te) : Option ((List UInt8) × Int) :=
 Z7 (⟨a0, false, ([] : (List (Int × Bool))), ([] : List Tc), ([] : (List ((List UInt8) × Td)))⟩ : Tf) fun t25 =>
 Qe (decide (t25.2.1 ≠ 0)) (some ([], t25.2.1)) (Js (Wg a2) fun t32 =>
 Qe (decide (t32 ≠ 0)) (some ([], t32)) (Js (R_Got t25.1 a1) fun t39 =>
 Qe (!t39.2) (some ([], 7)) (Qe (decide (t39.1.kai = 13)) (some ([], 10)) (Qe (decide (a2.kai = 13)) (some ([], 10)) (Js (Q3 a1) fun t57 =>
 Js (Zp t25.1.Big a2) fun t67 =>
 Js (gI ((((Q2 t25.2.2.kaf t57).getD (⟨0, 0, 0⟩ : Td)).kal) + 2)) fun t71 =>
 Js (Jk (⟨a0, t25.1.Big⟩ : Ti) t71 a2.kai 2) fun t74 =>
 Js (gI ((((Q2 t25.2.2.kaf t57).getD (⟨0, 0, 0⟩ : Td)).kal) + 4)) fun t78 =>
 Js (Qx a2) fun t80 =>
 Js (Jk t74 t78 t80 4) fun t81 =>
 Qe (decide ((t67.length : Int) ≤ 4)) (Js (gI (4 - (t67.length : Int))) fun t97 =>
 Js (gRep [0] t97) fun t98 =>
 Js (Zo t67 t98) fun t99 =>
 Js (gI ((((Q2 t25.2.2.kaf t57).getD (⟨0, 0, 0⟩ : Td)).kal) + 8)) fun t107 =>
 Js (Qp t81.s_ 0 t107) fun t108 =>
 Js (Zo t108 t99) fun t110 =>
 Js (gI ((((Q2 t25.2.2.kaf t57).getD (⟨0, 0, 0⟩ : Td)).kal) + 12)) fun t117 =>
 Js (Qp t81.s_ t117 t81.s_.length) fun t118 =>
 Js (Zo t110 t118) fun t119 =>
 Y8 t119 t81.kab) (Js (gI ((((Q2 t25.2.2.kaf t57).getD (⟨0, 0, 0⟩ : Td)).to_) - (((Q2 t25.2.2.kaf t57).getD (⟨0, 0, 0⟩ : Td)).kan))) fun t127 =>
 Qe (decide ((t67.length : Int) ≤ t127)) (Js (Qp t81.s_ 0 (((Q2 t25.2.2.kaf t57).getD (⟨0, 0, 0⟩ : Td)).kan)) fun t138 =>
 Js (Zo t138 t67) fun t140 =>
 Js (gI ((((Q2 t25.2.2.kaf t57).getD (⟨0, 0, 0⟩ : Td)).kan) + (t67.length : Int))) fun t149 =>
 Js (Qp t81.s_ t149 t81.s_.length) fun t150 =>
 Js (Zo t140 t150) fun t151 =>
 Y8 t151 t81.kab) (Js (gI ((((Q2 t25.2.2.kaf t57).getD (⟨0, 0, 0⟩ : Td)).kal) + 8)) fun t85 =>
 Js (Qo t81 t67) fun t88 =>
 Js (Jk t88.2 t85 t88.1 4) fun t89 =>
 Y8 t89.s_ t89.kab)))))))
def Wv (a0 : (List UInt8)) (a1 : Int) (a3 : Int) (x2 : (List UInt8)) : Option (Bool) :=
 Qe (decide (a0 = x2)) (some (decide (a1 = a3))) (some false)
def Jbm (a0 : (List UInt8)) (a1 : Int) (a2 : (List UInt8)) (a3 : Int) : Option (Bool) :=
 Qe (decide (a3 ≠ 0)) (Wv a0 a1 a3 []) (Wv a0 a1 a3 a2)
def Jb4 (a0 : (List UInt8)) (a1 : (List Int)) (a2 : Te) : Option (Bool) :=
 Js (Jf5 a0 a1 a2) fun t15 =>
 Js (Jbu a0 a1 a2) fun t22 =>
 Js (Jbm t15.1 t15.2 t22.1 t22.2) fun t29 =>
 some t29
end
end Go.M

namespace Go.Proofs
open Go.Shelf
def Tryz.sortFP_ren : Go.Shelf.Ren := ⟨fun | 6 => 33 | 15 => 68 | 14 => 67 | 28 => 104 | 29 => 105 | 20 => 96 | 21 => 97 | 22 => 98 | 23 => 99 | 24 => 100 | 25 => 101 | 26 => 102 | 27 => 103 | 46 => 113 | 47 => 114 | 48 => 115 | 49 => 116 | 50 => 117 | 57 => 123 | n => n, fun | 22 => 35 | 24 => 82 | 25 => 83 | 3 => 3 | 39 => 99 | 0 => 0 | 53 => 138 | 55 => 141 | 4 => 4 | 46 => 148 | 45 => 147 | 50 => 91 | 5 => 5 | 9 => 9 | 66 => 162 | 70 => 166 | 76 => 172 | 77 => 103 | n => n, fun | n => n⟩
theorem Tryz.sortFP : Go.Proofs.SlLaysF0.n6 Tryz.prog Tryz.sortFP_ren := {
 mixed := by kernel_rfl
 f6 := ⟨Tryz.f33.name, by decide, Tryz.func33.trans (congrArg some (by kernel_rfl))⟩
 f14 := ⟨Tryz.f67.name, by decide, Tryz.func67.trans (congrArg some (by kernel_rfl))⟩
 f15 := Tryz.func68.trans (congrArg some (by kernel_rfl))
 f20 := ⟨Tryz.f96.name, by decide, Tryz.func96.trans (congrArg some (by kernel_rfl))⟩
 f21 := ⟨Tryz.f97.name, by decide, Tryz.func97.trans (congrArg some (by kernel_rfl))⟩
 f22 := ⟨Tryz.f98.name, by decide, Tryz.func98.trans (congrArg some (by kernel_rfl))⟩
 f23 := ⟨Tryz.f99.name, by decide, Tryz.func99.trans (congrArg some (by kernel_rfl))⟩
 f24 := ⟨Tryz.f100.name, by decide, Tryz.func100.trans (congrArg some (by kernel_rfl))⟩
 f25 := ⟨Tryz.f101.name, by decide, Tryz.func101.trans (congrArg some (by kernel_rfl))⟩
 f26 := ⟨Tryz.f102.name, by decide, Tryz.func102.trans (congrArg some (by kernel_rfl))⟩
 f27 := ⟨Tryz.f103.name, by decide, Tryz.func103.trans (congrArg some (by kernel_rfl))⟩
 f28 := Tryz.func104.trans (congrArg some (by kernel_rfl))
 f29 := Tryz.func105.trans (congrArg some (by kernel_rfl))
 f46 := ⟨Tryz.f113.name, by decide, Tryz.func113.trans (congrArg some (by kernel_rfl))⟩
 f47 := Tryz.func114.trans (congrArg some (by kernel_rfl))
 f48 := Tryz.func115.trans (congrArg some (by kernel_rfl))
 f49 := ⟨Tryz.f116.name, by decide, Tryz.func116.trans (congrArg some (by kernel_rfl))⟩
 f50 := ⟨Tryz.f117.name, by decide, Tryz.func117.trans (congrArg some (by kernel_rfl))⟩
 f57 := ⟨Tryz.f123.name, by decide, Tryz.func123.trans (congrArg some (by kernel_rfl))⟩
 t0 := Tryz.underlying0
 a0 := Tryz.isAgg0
 z0 := Tryz.sizeOf0
 v0 := Tryz.zeroValue0
 t3 := Tryz.underlying3
 a3 := Tryz.isAgg3
 z3 := Tryz.sizeOf3
 v3 := Tryz.zeroValue3
 t4 := Tryz.underlying4
 a4 := Tryz.isAgg4
 z4 := Tryz.sizeOf4
 v4 := Tryz.zeroValue4
 t5 := Tryz.underlying5
 a5 := Tryz.isAgg5
 z5 := Tryz.sizeOf5
 v5 := Tryz.zeroValue5
 t9 := Tryz.underlying9
 a9 := Tryz.isAgg9
 z9 := Tryz.sizeOf9
 v9 := Tryz.zeroValue9
 t22 := Tryz.underlying35
 a22 := Tryz.isAgg35
 z22 := Tryz.sizeOf35
 v22 := Tryz.zeroValue35
 t25 := Tryz.underlying83
 a25 := Tryz.isAgg83
 z25 := Tryz.sizeOf83
 v25 := Tryz.zeroValue83
 t39 := Tryz.underlying99
 a39 := Tryz.isAgg99
 z39 := Tryz.sizeOf99
 v39 := Tryz.zeroValue99
 t45 := Tryz.underlying147
 a45 := Tryz.isAgg147
 z45 := Tryz.sizeOf147
 v45 := Tryz.zeroValue147
 t46 := Tryz.underlying148
 a46 := Tryz.isAgg148
 z46 := Tryz.sizeOf148
 v46 := Tryz.zeroValue148
 t50 := Tryz.underlying91
 a50 := Tryz.isAgg91
 z50 := Tryz.sizeOf91
 v50 := Tryz.zeroValue91
 t53 := Tryz.underlying138
 a53 := Tryz.isAgg138
 z53 := Tryz.sizeOf138
 v53 := Tryz.zeroValue138
 t55 := Tryz.underlying141
 a55 := Tryz.isAgg141
 z55 := Tryz.sizeOf141
 v55 := Tryz.zeroValue141
 t66 := Tryz.underlying162
 a66 := Tryz.isAgg162
 z66 := Tryz.sizeOf162
 v66 := Tryz.zeroValue162
 t70 := Tryz.underlying166
 a70 := Tryz.isAgg166
 z70 := Tryz.sizeOf166
 v70 := Tryz.zeroValue166
 t76 := Tryz.underlying172
 a76 := Tryz.isAgg172
 z76 := Tryz.sizeOf172
 v76 := Tryz.zeroValue172
 t77 := Tryz.underlying103
 a77 := Tryz.isAgg103
 z77 := Tryz.sizeOf103
 v77 := Tryz.zeroValue103 }
def Tryz.cmpI49_ren : Go.Shelf.Ren := ⟨fun | 5 => 49 | 7 => 86 | n => n, fun | 22 => 3 | 3 => 3 | 4 => 4 | n => n, fun | n => n⟩
theorem Tryz.cmpI49 : Go.Proofs.SlLaysC2.n5 Tryz.prog Tryz.cmpI49_ren := {
 mixed := by kernel_rfl
 f5 := ⟨Tryz.f49.name, by decide, Tryz.func49.trans (congrArg some (by kernel_rfl))⟩
 f7 := ⟨Tryz.f86.name, by decide, Tryz.func86.trans (congrArg some (by kernel_rfl))⟩
 t3 := Tryz.underlying3
 a3 := Tryz.isAgg3
 z3 := Tryz.sizeOf3
 v3 := Tryz.zeroValue3
 t4 := Tryz.underlying4
 a4 := Tryz.isAgg4
 z4 := Tryz.sizeOf4
 v4 := Tryz.zeroValue4
 t22 := Tryz.underlying3
 a22 := Tryz.isAgg3
 z22 := Tryz.sizeOf3
 v22 := Tryz.zeroValue3 }
end Go.Proofs

namespace Go.Vc
open Go
abbrev X4 := Nat → Value
def upd (e : X4) (d : Nat) (v : Value) : X4 := fun t => bif Nat.beq t d then v else e t
def ev (e : X4) : Operand → Value
 | .tmp t => e t
 | .const v => v
 | .global g => .pointer (some ⟨g, 0, none⟩)
 | .func f => .func (.func f) #[] #[]
structure Sim (n : Nat) (a : Act) (e : X4) : Prop where
 defers : a.defers = []
 size : a.tmps.size = n
 val : ∀ t, a.tmps.getD t undef = e t
theorem Sim.ev {n : Nat} {a : Act} {e : X4} (h : Sim n a e) : a.eval = ev e := by
 funext o
 cases o <;> simp [Act.eval, Vc.ev, h.val]
theorem beq_eq (a b : Nat) : Nat.beq a b = decide (a = b) := by
 rw [Bool.eq_iff_iff]; simp [Nat.beq_eq]
theorem upd_same (e : X4) (d : Nat) (v : Value) : upd e d v d = v := by simp [upd]
theorem upd_ne (e : X4) (d t : Nat) (v : Value) (h : t ≠ d) : upd e d v t = e t := by simp [upd, beq_eq, h]
theorem Sim.put {n : Nat} {a : Act} {e : X4} (h : Sim n a e) {d : Nat} (hd : Nat.blt d n = true) (v : Value) : Sim n (a.put (some d) v) (upd e d v) := by
 have hd' : d < n := by simpa using hd
 refine ⟨h.defers, by simp [Act.put, h.size], fun t => ?_⟩
 have ht := h.val t
 by_cases htd : t = d
 ·subst htd
  rw [upd_same]
  simp [Act.put, Array.getD_eq_getD_getElem?, h.size, hd']
 ·rw [upd_ne _ _ _ _ htd, ← ht]
  simp only [Act.put, Array.getD_eq_getD_getElem?]
  rw [Array.getElem?_setIfInBounds]
  have : ¬ d = t := fun e => htd e.symm
  simp [this]
def lget : List Value → X4
 | [], _ => undef
 | v :: _, 0 => v
 | _ :: l, t + 1 => lget l t
theorem lget_eq (l : List Value) (t : Nat) : lget l t = l.getD t undef := by
 induction l generalizing t with
 | nil => simp [lget]
 | cons v l ih => cases t <;> simp [lget, ih]
def Grow (w w' : World) : Prop := Go.RowKit.Below w.heap.size w w'
theorem Grow.refl (w : World) : Grow w w := Go.RowKit.Below.refl _ _
theorem Grow.trans {a b c : World} (h : Grow a b) (k : Grow b c) : Grow a c := Go.RowKit.Below.trans h (Go.RowKit.Below.mono k h.size)
structure Chunk where
 P : (Nat → Prop) → World → Prop
 loc : ∀ S w w', (∀ b, S b → w'.heap[b]? = w.heap[b]?) → P S w → P S w'
structure Cx where
 w0 : World
 S0 : Nat → Prop
def Cx.own (cx : Cx) (b : Nat) : Prop := cx.w0.heap.size ≤ b ∨ cx.S0 b
structure Fr (cx : Cx) (w : World) : Prop where
 os : w.os = cx.w0.os
 tape : w.tape = cx.w0.tape
 output : w.output = cx.w0.output
 size : cx.w0.heap.size ≤ w.heap.size
 block : ∀ b, ¬ cx.own b → w.heap[b]? = cx.w0.heap[b]?
structure Sat (cx : Cx) (w : World) (L : List Chunk) : Prop where
 out : ∃ fp : Nat → Nat → Prop, (∀ (i : Nat) (c : Chunk), L[i]? = some c → c.P (fp i) w) ∧ (∀ i b, fp i b → i < L.length ∧ b < w.heap.size ∧ cx.own b) ∧ (∀ i j b, fp i b → fp j b → i = j)
theorem Fr.refl (w : World) (S0 : Nat → Prop) : Fr ⟨w, S0⟩ w := ⟨rfl, rfl, rfl, Nat.le_refl _, fun _ _ => rfl⟩
theorem Fr.grow {cx : Cx} {w w' : World} (h : Fr cx w) (g : Grow w w') : Fr cx w' := by
 refine ⟨g.os.trans h.os, g.tape.trans h.tape, g.output.trans h.output, Nat.le_trans h.size g.size, fun b hb => ?_⟩
 have hlt : b < w.heap.size := by
  have : ¬ cx.w0.heap.size ≤ b := fun hh => hb (.inl hh)
  have := h.size
  omega
 rw [g.block b hlt, h.block b hb]
theorem Sat.grow {cx : Cx} {w w' : World} {L : List Chunk} (h : Sat cx w L) (g : Grow w w') : Sat cx w' L := by
 obtain ⟨fp, h1, h2, h3⟩ := h.out
 refine ⟨fp, fun i c hc => c.loc _ _ _ (fun b hb => g.block b (h2 i b hb).2.1) (h1 i c hc), fun i b hb => ?_, h3⟩
 obtain ⟨a1, a2, a3⟩ := h2 i b hb
 exact ⟨a1, Nat.lt_of_lt_of_le a2 g.size, a3⟩
theorem Sat.nil (cx : Cx) (w : World) : Sat cx w [] := ⟨fun _ _ => False, by simp, fun _ _ h => h.elim, fun _ _ _ h => h.elim⟩
theorem Sat.snoc {cx : Cx} {w w' : World} {L : List Chunk} {c : Chunk} {S : Nat → Prop} (h : Sat cx w L) (hf : Fr cx w) (g : Grow w w') (hc : c.P S w')
  (hS : ∀ b, S b → w.heap.size ≤ b ∧ b < w'.heap.size) : Sat cx w' (L ++ [c]) := by
 obtain ⟨fp, k1, h2, h3⟩ := h.out
 have h1 : ∀ (i : Nat) (c : Chunk), L[i]? = some c → c.P (fp i) w' := fun i c hc => c.loc _ _ _ (fun b hb => g.block b (h2 i b hb).2.1) (k1 i c hc)
 refine ⟨fun i b => (i < L.length ∧ fp i b) ∨ (i = L.length ∧ S b), ?_, ?_, ?_⟩
 ·intro i d hd
  by_cases hi : i < L.length
  ·have : (fun b => (i < L.length ∧ fp i b) ∨ (i = L.length ∧ S b)) = fp i := by
    funext b; apply propext; constructor
    ·rintro (⟨_, h⟩ | ⟨h, _⟩)
     ·exact h
     ·omega
    ·exact fun h => .inl ⟨hi, h⟩
   show d.P (fun b => (i < L.length ∧ fp i b) ∨ (i = L.length ∧ S b)) w'
   rw [this]
   exact h1 i d (by simpa [List.getElem?_append_left hi] using hd)
  ·have hle : L.length ≤ i := by omega
   rw [List.getElem?_append_right hle] at hd
   have hi0 : i - L.length = 0 := by
    by_cases h0 : i - L.length = 0
    ·exact h0
    ·obtain ⟨k, hk⟩ : ∃ k, i - L.length = k + 1 := ⟨i - L.length - 1, by omega⟩
     rw [hk] at hd; simp at hd
   have hil : i = L.length := by omega
   rw [hi0] at hd
   simp at hd
   subst hd
   have : (fun b => (i < L.length ∧ fp i b) ∨ (i = L.length ∧ S b)) = S := by
    funext b; apply propext; constructor
    ·rintro (⟨h, _⟩ | ⟨_, h⟩)
     ·omega
     ·exact h
    ·exact fun h => .inr ⟨hil, h⟩
   show c.P (fun b => (i < L.length ∧ fp i b) ∨ (i = L.length ∧ S b)) w'
   rw [this]
   exact hc
 ·rintro i b (⟨hi, hb⟩ | ⟨hi, hb⟩)
  ·obtain ⟨a1, a2, a3⟩ := h2 i b hb
   exact ⟨by simp; omega, Nat.lt_of_lt_of_le a2 g.size, a3⟩
  ·obtain ⟨a1, a2⟩ := hS b hb
   exact ⟨by simp; omega, a2, .inl (Nat.le_trans hf.size a1)⟩
 ·rintro i j b (⟨hi, hb⟩ | ⟨hi, hb⟩) (⟨hj, hb'⟩ | ⟨hj, hb'⟩)
  ·exact h3 i j b hb hb'
  ·have := (h2 i b hb).2.1; have := (hS b hb').1; omega
  ·have := (h2 j b hb').2.1; have := (hS b hb).1; omega
  ·omega
theorem Sat.set {cx : Cx} {w w' : World} {L : List Chunk} {i : Nat} {c c' : Chunk} (h : Sat cx w L) (hf : Fr cx w) (hi : L[i]? = some c)
  (hs : w.heap.size ≤ w'.heap.size)
  (hc : ∀ S : Nat → Prop, c.P S w → (∀ b, S b → b < w.heap.size ∧ cx.own b) → ∃ S' : Nat → Prop, c'.P S' w' ∧ (∀ b, S' b → b < w'.heap.size ∧ (S b ∨ w.heap.size ≤ b)) ∧ ∀ b, b < w.heap.size → ¬ S b → w'.heap[b]? = w.heap[b]?) :
  Sat cx w' (L.set i c') := by
 obtain ⟨fp, h1, h2, h3⟩ := h.out
 obtain ⟨S', k1, k2, k3⟩ := hc (fp i) (h1 i c hi) (fun b hb => (h2 i b hb).2)
 have hil : i < L.length := by
  rcases Nat.lt_or_ge i L.length with h | h
  ·exact h
  ·simp [List.getElem?_eq_none h] at hi
 refine ⟨fun j b => if j = i then S' b else fp j b, ?_, ?_, ?_⟩
 ·intro j d hd
  by_cases hji : j = i
  ·subst hji
   simp [List.getElem?_set_self hil] at hd
   subst hd
   simpa using k1
  ·rw [List.getElem?_set_ne (fun e => hji e.symm)] at hd
   simp only [hji, if_false]
   exact d.loc _ _ _ (fun b hb => k3 b (h2 j b hb).2.1 (fun hib => hji (h3 j i b hb hib))) (h1 j d hd)
 ·intro j b hb
  by_cases hji : j = i
  ·simp only [hji, if_true] at hb
   refine ⟨by simp [hji, hil], (k2 b hb).1, ?_⟩
   rcases (k2 b hb).2 with h | h
   ·exact (h2 i b h).2.2
   ·exact .inl (Nat.le_trans hf.size h)
  ·simp only [hji, if_false] at hb
   obtain ⟨a1, a2, a3⟩ := h2 j b hb
   exact ⟨by simpa using a1, by omega, a3⟩
 ·intro j k b hj hk
  by_cases hji : j = i <;> by_cases hki : k = i <;> simp only [hji, hki, if_true, if_false] at hj hk
  ·omega
  ·obtain ⟨_, a2, _⟩ := h2 k b hk
   rcases (k2 b hj).2 with h | h
   ·exact absurd (h3 k i b hk h) hki
   ·omega
  ·obtain ⟨_, a2, _⟩ := h2 j b hj
   rcases (k2 b hk).2 with h | h
   ·exact absurd (h3 j i b hj h) hji
   ·omega
  ·exact h3 j k b hj hk
theorem Sat.select {cx : Cx} {w : World} {L L' : List Chunk} (h : Sat cx w L) (sel : List Nat) (hnd : sel.Nodup) (hs : sel.map (fun i => L[i]?) = L'.map some) : Sat cx w L' := by
 obtain ⟨fp, h1, h2, h3⟩ := h.out
 have hlen : sel.length = L'.length := by simpa using congrArg List.length hs
 refine ⟨fun k b => ∃ i, sel[k]? = some i ∧ fp i b, ?_, ?_, ?_⟩
 ·intro k c hc
  have hk : (sel.map (fun i => L[i]?))[k]? = (L'.map some)[k]? := by rw [hs]
  simp only [List.getElem?_map, hc, Option.map_some] at hk
  cases hsk : sel[k]? with
  | none => simp [hsk] at hk
  | some i =>
   simp [hsk] at hk
   have : (fun b => ∃ j, some i = some j ∧ fp j b) = fp i := by
    funext b; apply propext; constructor
    ·rintro ⟨j, hj, hb⟩; cases hj; exact hb
    ·exact fun hb => ⟨i, rfl, hb⟩
   show c.P (fun b => ∃ j, sel[k]? = some j ∧ fp j b) w
   rw [hsk, this]
   exact h1 i c hk
 ·rintro k b ⟨i, hi, hb⟩
  have hkl : k < sel.length := by
   rcases Nat.lt_or_ge k sel.length with h | h
   ·exact h
   ·simp [List.getElem?_eq_none h] at hi
  exact ⟨by omega, (h2 i b hb).2⟩
 ·rintro k k' b ⟨i, hi, hb⟩ ⟨i', hi', hb'⟩
  have := h3 i i' b hb hb'
  subst this
  have hkl : k < sel.length := by
   rcases Nat.lt_or_ge k sel.length with h | h
   ·exact h
   ·simp [List.getElem?_eq_none h] at hi
  have hkl' : k' < sel.length := by
   rcases Nat.lt_or_ge k' sel.length with h | h
   ·exact h
   ·simp [List.getElem?_eq_none h] at hi'
  have hp := List.pairwise_iff_getElem.1 hnd
  rw [List.getElem?_eq_getElem hkl] at hi
  rw [List.getElem?_eq_getElem hkl'] at hi'
  rcases Nat.lt_trichotomy k k' with h | h | h
  ·exact absurd ((Option.some.inj hi).trans (Option.some.inj hi').symm) (hp k k' hkl hkl' h)
  ·exact h
  ·exact absurd ((Option.some.inj hi').trans (Option.some.inj hi).symm) (hp k' k hkl' hkl h)
structure At (cx : Cx) (K : X4 → World → Prop) (e : X4) (L : List Chunk) : Prop where
 out : ∀ w, Fr cx w → Sat cx w L → K e w
abbrev Jbe := Exit → X4 → World → Prop
def lift (n : Nat) (Q : Jbe) : Exit → Act → World → Prop := fun x a w => ∃ e, Sim n a e ∧ Q x e w
structure WC (P : Program) (n : Nat) (c : Code) (Q : Jbe) (e : X4) (w : World) : Prop where
 out : ∀ a, Sim n a e → c.wp P (lift n Q) a w
structure WL (P : Program) (n : Nat) (ops : Array Oper) (Q : Jbe) (l : List Oper) (e : X4) (w : World) : Prop where
 out : ∀ a, Sim n a e → wpList P ops (lift n Q) l a w
def ThenQ (K : X4 → World → Prop) (Q : Jbe) : Jbe
 | .normal, e, w => K e w
 | .exit i, e, w => Q (.exit i) e w
 | .goto l, e, w => Q (.goto l) e w
 | .ret, e, w => Q .ret e w
 | .panic c, e, w => Q (.panic c) e w
 | .outgrown, e, w => Q .outgrown e w
def BlockQ (id : Nat) (Q : Jbe) : Jbe
 | .normal, e, w => Q .normal e w
 | .exit i, e, w => bif Nat.beq i id then Q .normal e w else Q (.exit i) e w
 | .goto l, e, w => Q (.goto l) e w
 | .ret, e, w => Q .ret e w
 | .panic c, e, w => Q (.panic c) e w
 | .outgrown, e, w => Q .outgrown e w
section rules
variable {P : Program} {n : Nat} {cx : Cx} {Q : Jbe} {e : X4} {L : List Chunk}
theorem Jc {x y : Code} (h : At cx (WC P n x (ThenQ (WC P n y Q) Q)) e L) : At cx (WC P n (.seq x y) Q) e L :=
 ⟨fun w hF hS => ⟨fun a ha => wp_seq (Code.wp_mono (fun x' a' w' hq => by
  obtain ⟨e', hs, hq⟩ := hq
  cases x' <;> first | exact ⟨e', hs, hq⟩ | exact WC.out hq a' hs) ((h.out w hF hS).out a ha))⟩⟩
theorem Jj (h : At cx (Q .normal) e L) : At cx (WC P n .skip Q) e L :=
 ⟨fun w hF hS => ⟨fun _ ha => wp_skip ⟨e, ha, h.out w hF hS⟩⟩⟩
theorem Jm (h : At cx (Q .ret) e L) : At cx (WC P n .ret Q) e L :=
 ⟨fun w hF hS => ⟨fun _ ha => wp_ret ⟨e, ha, h.out w hF hS⟩⟩⟩
theorem Xj {id : Nat} (h : At cx (Q (.exit id)) e L) : At cx (WC P n (.exit id) Q) e L :=
 ⟨fun w hF hS => ⟨fun _ ha => wp_exit ⟨e, ha, h.out w hF hS⟩⟩⟩
theorem Jx {id : Nat} {c : Code} (h : At cx (WC P n c (BlockQ id Q)) e L) : At cx (WC P n (.block id c) Q) e L :=
 ⟨fun w hF hS => ⟨fun a ha => wp_block (Code.wp_mono (fun x' a' w' hq => by
  obtain ⟨e', hs, hq⟩ := hq
  cases x' with
  | exit i =>
   simp only [Exit.inBlock, lift]
   by_cases hi : i = id
   ·simp only [hi, if_true]
    have hb : Nat.beq id id = true := by simp
    have hq' : (bif Nat.beq i id then Q .normal e' w' else Q (.exit i) e' w') := hq
    rw [hi, hb] at hq'
    exact ⟨e', hs, hq'⟩
   ·have hb : Nat.beq i id = false := by simp [beq_eq, hi]
    have hq' : (bif Nat.beq i id then Q .normal e' w' else Q (.exit i) e' w') := hq
    rw [hb] at hq'
    simp only [hi, if_false]
    exact ⟨e', hs, hq'⟩
  | normal => exact ⟨e', hs, hq⟩
  | goto l => exact ⟨e', hs, hq⟩
  | ret => exact ⟨e', hs, hq⟩
  | panic c => exact ⟨e', hs, hq⟩
  | outgrown => exact ⟨e', hs, hq⟩) ((h.out w hF hS).out a ha))⟩⟩
theorem c_if {c : Operand} {x y : Code} {b : Bool} (hc : ev e c = .bool b) (ht : b = true → At cx (WC P n x Q) e L) (hf : b = false → At cx (WC P n y Q) e L) :
  At cx (WC P n (.cond c x y) Q) e L :=
 ⟨fun w hF hS => ⟨fun a ha => wp_cond_split (by rw [ha.ev]; exact hc) (fun hb => ((ht hb).out w hF hS).out a ha) (fun hb => ((hf hb).out w hF hS).out a ha)⟩⟩
theorem Zl {c : Operand} {x y : Code} (hc : ev e c = .bool true) (ht : At cx (WC P n x Q) e L) : At cx (WC P n (.cond c x y) Q) e L :=
 c_if hc (fun _ => ht) (fun h => by cases h)
theorem Zz {c : Operand} {x y : Code} (hc : ev e c = .bool false) (hf : At cx (WC P n y Q) e L) : At cx (WC P n (.cond c x y) Q) e L :=
 c_if hc (fun h => by cases h) (fun _ => hf)
theorem Ja {id : Nat} {l : List Oper} (h : At cx (WL P n l.toArray Q l) e L) : At cx (WC P n (.region id l.toArray false) Q) e L :=
 ⟨fun w hF hS => ⟨fun a ha => wp_region_lit ((h.out w hF hS).out a ha)⟩⟩
theorem Jd {ops : Array Oper} (h : At cx (Q .normal) e L) : At cx (WL P n ops Q []) e L :=
 ⟨fun w hF hS => ⟨fun _ ha => wpList_nil ⟨e, ha, h.out w hF hS⟩⟩⟩
end rules
def Jfl (P : Program) (fn : Func) (R : Value → World → Prop) : Jbe
 | .normal, e, w | .ret, e, w => ∀ tmps : Array Value, (∀ t, tmps.getD t undef = e t) → ∃ v, (results fn tmps).run P w = .ok v w ∧ R v w
 | _, _, _ => False
def Does (P : Program) (f : FuncId) (args : Array Value) (w : World) (R : Value → World → Prop) : Prop :=
 Calls P f args w fun en w' => ∃ v, en = .returned v ∧ R v w'
theorem Does.mono {P : Program} {f : FuncId} {args : Array Value} {w : World} {R R' : Value → World → Prop} (h : Does P f args w R) (hr : ∀ v w', R v w' → R' v w') : Does P f args w R' :=
 Calls.mono h fun _ _ ⟨v, he, hv⟩ => ⟨v, he, hr _ _ hv⟩
theorem getD_args (args : List Value) (k t : Nat) : (args.toArray ++ Array.replicate k undef).getD t undef = lget args t := by
 rw [lget_eq, Array.getD_eq_getD_getElem?, Array.getElem?_append]
 split
 ·simp [List.getD_eq_getElem?_getD]
 ·rename_i h
  have h' : args.length ≤ t := by simpa using h
  rw [List.getD_eq_getElem?_getD, List.getElem?_eq_none h']
  rw [Array.getElem?_replicate]
  split <;> rfl
theorem enter {P : Program} {f : FuncId} {fn : Func} {c : Code} {args : List Value} {n : Nat} {w : World} {R : Value → World → Prop} (hf : P.funcs[f]? = some fn) (hb : fn.body = some c) (hn : fn.ntmps = n) (hle : Nat.ble args.length n = true)
  (S0 : Nat → Prop) (L : List Chunk) (hL : Sat ⟨w, S0⟩ w L) (h : At ⟨w, S0⟩ (WC P n c (Jfl P fn R)) (lget args) L) : Does P f args.toArray w R := by
 refine calls_of_wp hf hb ?_
 refine Code.wp_mono ?_ ((h.out w (Fr.refl w S0) hL).out _ ⟨rfl, ?_, ?_⟩)
 ·rintro x a w' ⟨e, hs, hq⟩
  cases x with
  | normal =>
   obtain ⟨v, hr, hR⟩ := hq a.tmps hs.val
   exact ⟨hs.defers, v, hr, v, rfl, hR⟩
  | ret =>
   obtain ⟨v, hr, hR⟩ := hq a.tmps hs.val
   exact ⟨hs.defers, v, hr, v, rfl, hR⟩
  | exit i => exact hq.elim
  | goto i => exact hq.elim
  | panic i => exact hq.elim
  | outgrown => exact hq.elim
 ·have hle' : args.length ≤ n := by simpa using hle
  simp only [hn, Array.size_append, List.size_toArray, Array.size_replicate]
  omega
 ·intro t
  exact getD_args args _ t
end Go.Vc

namespace Go.Vc
open Go
def Yi (ops : Array Oper) (o : Oper) (e : X4) : Bool :=
 match o.guard with
 | none => true
 | some (j, b) => match (ops[j]?).bind (·.dst) with
  | none => false
  | some d => match e d, b with
   | .bool true, b => b
   | .bool false, true => false
   | .bool false, false => true
   | _, _ => false
theorem Jel {n : Nat} {a : Act} {e : X4} (h : Sim n a e) (ops : Array Oper) (o : Oper) : Region.wanted o (yielded ops a.tmps) = Yi ops o e := by
 unfold Region.wanted Yi
 cases hg : o.guard with
 | none => rfl
 | some jb =>
  obtain ⟨j, b⟩ := jb
  simp only [yielded]
  cases hd : (ops[j]?).bind (·.dst) with
  | none => rfl
  | some d =>
   simp only [Option.bind_some]
   have hv := h.val d
   rw [Array.getD_eq_getD_getElem?] at hv
   cases ht : a.tmps[d]? with
   | none =>
    rw [ht] at hv
    simp only [Option.getD_none] at hv
    rw [← hv]
    rfl
   | some v =>
    rw [ht] at hv
    simp only [Option.getD_some] at hv
    rw [← hv]
    cases v <;> first | rfl | (rename_i x; cases x <;> cases b <;> rfl)
section rules
variable {P : Program} {n : Nat} {cx : Cx} {Q : Jbe} {e : X4} {L : List Chunk} {ops : Array Oper} {rest : List Oper}
theorem Jba {o : Oper} {d : Nat} (hw : Yi ops o e = false) (hd : o.dst = some d) (hn : Nat.blt d n = true) (k : At cx (WL P n ops Q rest) (upd e d undef) L) : At cx (WL P n ops Q (o :: rest)) e L :=
 ⟨fun w hF hS => ⟨fun a ha => by
  unfold wpList
  rw [Jel ha, hw]
  rw [hd]
  exact (k.out w hF hS).out _ (ha.put hn undef)⟩⟩
theorem Jdi {o : Oper} {d : Nat} (hw : Yi ops o e = true) (hd : o.dst = some d) (hn : Nat.blt d n = true)
  (h : ∀ w, Fr cx w → Sat cx w L → ∃ v w', (execOp (ev e) o).run P w = .ok (.value v) w' ∧ WL P n ops Q rest (upd e d v) w') : At cx (WL P n ops Q (o :: rest)) e L :=
 ⟨fun w hF hS => ⟨fun a ha => by
  obtain ⟨v, w', hr, hk⟩ := h w hF hS
  unfold wpList
  rw [Jel ha, hw, if_pos rfl]
  refine .inl ?_
  unfold Oper.wp
  rw [ha.ev, hr]
  show wpList P ops (lift n Q) rest (a.put o.dst v) w'
  rw [hd]
  exact hk.out _ (ha.put hn v)⟩⟩
theorem l_acts {o : Oper} (hw : Yi ops o e = true) (hd : o.dst = none)
  (h : ∀ w, Fr cx w → Sat cx w L → ∃ w', (execOp (ev e) o).run P w = .ok .skip w' ∧ WL P n ops Q rest e w') : At cx (WL P n ops Q (o :: rest)) e L :=
 ⟨fun w hF hS => ⟨fun a ha => by
  obtain ⟨w', hr, hk⟩ := h w hF hS
  unfold wpList
  rw [Jel ha, hw, if_pos rfl]
  refine .inl ?_
  unfold Oper.wp
  rw [ha.ev, hr]
  show wpList P ops (lift n Q) rest (a.put o.dst undef) w'
  rw [hd]
  exact hk.out _ ha⟩⟩
theorem l_calls {o : Oper} {d : Nat} {f : FuncId} {args : Array Value} (hw : Yi ops o e = true) (hd : o.dst = some d) (hn : Nat.blt d n = true)
  (hr : ∀ w, (execOp (ev e) o).run P w = .ok (.enter f args) w)
  (h : ∀ w, Fr cx w → Sat cx w L → Does P f args w fun v w' => WL P n ops Q rest (upd e d v) w') : At cx (WL P n ops Q (o :: rest)) e L :=
 ⟨fun w hF hS => ⟨fun a ha => by
  unfold wpList
  rw [Jel ha, hw, if_pos rfl]
  refine .inl ?_
  unfold Oper.wp
  rw [ha.ev, hr]
  show Calls P f args w _
  refine Calls.mono (h w hF hS) ?_
  rintro en w' ⟨v, rfl, hk⟩
  show wpList P ops (lift n Q) rest (a.put o.dst v) w'
  rw [hd]
  exact hk.out _ (ha.put hn v)⟩⟩
theorem Qi {o : Oper} {d : Nat} {v : Value} (hw : Yi ops o e = true) (hd : o.dst = some d) (hn : Nat.blt d n = true)
  (hr : ∀ w, (execOp (ev e) o).run P w = .ok (.value v) w) (k : At cx (WL P n ops Q rest) (upd e d v) L) : At cx (WL P n ops Q (o :: rest)) e L :=
 Jdi hw hd hn fun w hF hS => ⟨v, w, hr w, k.out w hF hS⟩
section ops
variable {d : Option Nat} {ty : TypeId} {pos : String} {af : Array Edge} {g : Option (Nat × Bool)}
theorem Xw {X : Operand} {v : Value} (hx : ev e X = v) (w : World) :
  (execOp (ev e) ⟨d, .move X, ty, pos, af, g⟩).run P w = .ok (.value v) w :=
 by subst hx; rfl
theorem Jz {X : Operand} {v : Value} (hx : ev e X = v) (w : World) :
  (execOp (ev e) ⟨d, .assign X, ty, pos, af, g⟩).run P w = .ok (.value v) w :=
 by subst hx; rfl
theorem Xz {c A B : Operand} {v : Value} (hc : ev e c = .bool true) (hx : ev e A = v) (w : World) :
  (execOp (ev e) ⟨d, .pick c A B, ty, pos, af, g⟩).run P w = .ok (.value v) w :=
 by subst hx; simp [execOp, hc, asBool]
theorem Z1 {c A B : Operand} {v : Value} (hc : ev e c = .bool false) (hx : ev e B = v) (w : World) :
  (execOp (ev e) ⟨d, .pick c A B, ty, pos, af, g⟩).run P w = .ok (.value v) w :=
 by subst hx; simp [execOp, hc, asBool]
theorem split {K : X4 → World → Prop} {b : Bool} {d : Nat} (ht : b = true → At cx K (upd e d (.bool true)) L) (hf : b = false → At cx K (upd e d (.bool false)) L) : At cx K (upd e d (.bool b)) L := by
 cases b
 ·exact hf rfl
 ·exact ht rfl
theorem Ja6 {X : Operand} {b : Bool} {t : TypeId} (hx : ev e X = .bool b) (w : World) :
  (execOp (ev e) ⟨d, .unOp .not t X, ty, pos, af, g⟩).run P w = .ok (.value (.bool (!b))) w :=
 by simp [execOp, hx, Op.unary]
section bin
variable {X Y : Operand} {x y : Int} {t t' : TypeId} {kd : IntKind}
theorem Jjv (w : World) (op : BinOp) : (eqGuard op t X Y (.int kd x) (.int kd y)).run P w = .ok () w := by
 unfold eqGuard; cases op <;> rfl
theorem Jev {op : BinOp} {v : Value} (hx : ev e X = .int kd x) (hy : ev e Y = .int kd y)
  (hr : ∀ w, (binOp op t (.int kd x) (.int kd y)).run P w = .ok v w) (w : World) :
  (execOp (ev e) ⟨d, .binOp op t X Y t', ty, pos, af, g⟩).run P w = .ok (.value v) w :=
 by simp [execOp, hx, hy, Jjv, hr]
theorem r_add (hx : ev e X = .int .i64 x) (hy : ev e Y = .int .i64 y)
  (hr : -9223372036854775808 ≤ x + y ∧ x + y ≤ 9223372036854775807) (w : World) :
  (execOp (ev e) ⟨d, .binOp .add t X Y t', ty, pos, af, g⟩).run P w = .ok (.value (.int .i64 (x + y))) w :=
 Jev hx hy (fun w => by simp [binOp, Op.intArith, IntWalk.i64_in _ hr]) w
theorem r_sub (hx : ev e X = .int .i64 x) (hy : ev e Y = .int .i64 y)
  (hr : -9223372036854775808 ≤ x - y ∧ x - y ≤ 9223372036854775807) (w : World) :
  (execOp (ev e) ⟨d, .binOp .sub t X Y t', ty, pos, af, g⟩).run P w = .ok (.value (.int .i64 (x - y))) w :=
 Jev hx hy (fun w => by simp [binOp, Op.intArith, IntWalk.i64_in _ hr]) w
theorem r_mul (hx : ev e X = .int .i64 x) (hy : ev e Y = .int .i64 y)
  (hr : -9223372036854775808 ≤ x * y ∧ x * y ≤ 9223372036854775807) (w : World) :
  (execOp (ev e) ⟨d, .binOp .mul t X Y t', ty, pos, af, g⟩).run P w = .ok (.value (.int .i64 (x * y))) w :=
 Jev hx hy (fun w => by simp [binOp, Op.intArith, IntWalk.i64_in _ hr]) w
theorem r_rem (hx : ev e X = .int kd x) (hy : ev e Y = .int kd y)
  (hy0 : y ≠ 0) (w : World) :
  (execOp (ev e) ⟨d, .binOp .rem t X Y t', ty, pos, af, g⟩).run P w = .ok (.value (.int kd (x.tmod y))) w :=
 Jev hx hy (fun w => by simp [binOp, Op.intDiv, hy0]) w
theorem X3 (hx : ev e X = .int kd x) (hy : ev e Y = .int kd y) (w : World) :
  (execOp (ev e) ⟨d, .binOp .lss t X Y t', ty, pos, af, g⟩).run P w = .ok (.value (.bool (decide (x < y)))) w :=
 Jev hx hy (fun w => by simp [binOp, Op.intCmp]) w
theorem Jd1 (hx : ev e X = .int kd x) (hy : ev e Y = .int kd y) (w : World) :
  (execOp (ev e) ⟨d, .binOp .leq t X Y t', ty, pos, af, g⟩).run P w = .ok (.value (.bool (decide (x ≤ y)))) w :=
 Jev hx hy (fun w => by simp [binOp, Op.intCmp]) w
theorem Yf (hx : ev e X = .int kd x) (hy : ev e Y = .int kd y) (w : World) :
  (execOp (ev e) ⟨d, .binOp .gtr t X Y t', ty, pos, af, g⟩).run P w = .ok (.value (.bool (decide (y < x)))) w :=
 Jev hx hy (fun w => by simp [binOp, Op.intCmp]) w
theorem Jey (hx : ev e X = .int kd x) (hy : ev e Y = .int kd y) (w : World) :
  (execOp (ev e) ⟨d, .binOp .geq t X Y t', ty, pos, af, g⟩).run P w = .ok (.value (.bool (decide (y ≤ x)))) w :=
 Jev hx hy (fun w => by simp [binOp, Op.intCmp]) w
theorem Qj (hx : ev e X = .int kd x) (hy : ev e Y = .int kd y) (w : World) :
  (execOp (ev e) ⟨d, .binOp .eql t X Y t', ty, pos, af, g⟩).run P w = .ok (.value (.bool (decide (x = y)))) w :=
 Jev hx hy (fun w => by simp [binOp, Op.intCmp]; rfl) w
theorem Yv (hx : ev e X = .int kd x) (hy : ev e Y = .int kd y) (w : World) :
  (execOp (ev e) ⟨d, .binOp .neq t X Y t', ty, pos, af, g⟩).run P w = .ok (.value (.bool (decide (x ≠ y)))) w :=
 Jev hx hy (fun w => by simp [binOp, Op.intCmp, bne]; rfl) w
end bin
theorem J9 {X : Operand} {ix : Nat} {vs : Array Value} {v : Value} (hx : ev e X = .tuple vs) (hv : vs[ix]? = some v) (w : World) :
  (execOp (ev e) ⟨d, .extract X ix, ty, pos, af, g⟩).run P w = .ok (.value v) w :=
 by simp [execOp, hx, Instr.extract, hv]
theorem Xf {t : TypeId} {parts : Array (Nat × Operand)} {fs : Array Field} {pl : Array (Nat × Nat)} {z cells : Array Value} {ps : List (Nat × Value)}
  (hz : ∀ w, (zeroValue t).run P w = .ok (.agg z) w) (hu : ∀ w, (underlying t).run P w = .ok (.struct fs) w)
  (hpl : ∀ w, (fs.mapM fun f => do pure (f.offset, ← sizeOf f.type) : Sem (Array (Nat × Nat))).run P w = .ok pl w)
    
  (hps : parts.toList.map (fun (i, x) => (i, ev e x)) = ps) (hf : Instr.fill (pl[·]?) z ps = some cells) (w : World) :
  (execOp (ev e) ⟨d, .build t parts, ty, pos, af, g⟩).run P w = .ok (.value (.agg cells)) w :=
 by
  have hz' : (Value.agg z).cells = z := rfl
  have hps' : (parts.map fun (i, x) => (i, ev e x)).toList = ps := by rw [← hps, Array.toList_map]
  simp only [execOp, Instr.build, Sem.run_bind, hz, hu, Result.andThen_ok, hpl, hps', hz', hf, Sem.run_pure]
end ops
end rules
end Go.Vc

namespace Go.Vc
open Go
def Jf (b : Nat) (cs : List Value) (T : TypeId) : Chunk where
 P S w := (∀ x, S x ↔ x = b) ∧ w.heap[b]? = some (.cells cs.toArray T (0, 0))
 loc S w w' h hp := ⟨hp.1, by rw [h b ((hp.1 b).2 rfl)]; exact hp.2⟩
def rdn : List Value → Nat → Option (List Value)
 | _, 0 => some []
 | [], _ + 1 => none
 | v :: r, k + 1 => (rdn r k).map (v :: ·)
def rd : List Value → Nat → Nat → Option (List Value)
 | cs, 0, k => rdn cs k
 | [], _ + 1, k => rdn [] k
 | _ :: r, o + 1, k => rd r o k
def wrn : List Value → List Value → Option (List Value)
 | cs, [] => some cs
 | [], _ :: _ => none
 | _ :: r, v :: vs => (wrn r vs).map (v :: ·)
def wr : List Value → Nat → List Value → Option (List Value)
 | cs, 0, vs => wrn cs vs
 | [], _ + 1, [] => some []
 | [], _ + 1, _ :: _ => none
 | c :: r, o + 1, vs => (wr r o vs).map (c :: ·)
def rg : List Value → Nat → Option Value
 | [], _ => none
 | v :: _, 0 => some v
 | _ :: r, k + 1 => rg r k
theorem rg_eq : ∀ (cs : List Value) (k : Nat), rg cs k = cs[k]?
 | [], _ => by simp [rg]
 | v :: r, 0 => by simp [rg]
 | v :: r, k + 1 => by simp [rg, rg_eq r k]
theorem rdn_get {cs : List Value} : ∀ {k : Nat} {vs : List Value}, rdn cs k = some vs → vs.length = k ∧ ∀ (j : Nat) (v : Value), vs[j]? = some v → cs[j]? = some v := by
 induction cs with
 | nil => intro k vs h; cases k <;> simp [rdn] at h; subst h; exact ⟨rfl, by simp⟩
 | cons c r ih =>
  intro k vs h
  cases k with
  | zero => simp [rdn] at h; subst h; exact ⟨rfl, by simp⟩
  | succ k =>
   simp only [rdn, Option.map_eq_some_iff] at h
   obtain ⟨x, hx, rfl⟩ := h
   obtain ⟨h1, h2⟩ := ih hx
   refine ⟨by simp [h1], fun j v hv => ?_⟩
   cases j with
   | zero => simpa using hv
   | succ j => simp at hv ⊢; exact h2 j v hv
theorem Jht {cs : List Value} {o k : Nat} {vs : List Value} (h : rd cs o k = some vs) : vs.length = k ∧ ∀ (j : Nat) (v : Value), vs[j]? = some v → cs[o + j]? = some v := by
 induction cs generalizing o with
 | nil =>
  cases o with
  | zero => simpa using rdn_get h
  | succ o =>
   obtain ⟨h1, h2⟩ := rdn_get (cs := []) (by simpa [rd] using h)
   exact ⟨h1, fun j v hv => by have := h2 j v hv; simp at this⟩
 | cons c r ih =>
  cases o with
  | zero => simpa using rdn_get h
  | succ o =>
   obtain ⟨h1, h2⟩ := ih (o := o) (by simpa [rd] using h)
   exact ⟨h1, fun j v hv => by have := h2 j v hv; rw [show o + 1 + j = (o + j) + 1 from by omega]; simpa using this⟩
theorem wrn_eq {cs vs cs' : List Value} (h : wrn cs vs = some cs') : vs.length ≤ cs.length ∧ cs' = vs ++ cs.drop vs.length := by
 induction vs generalizing cs cs' with
 | nil => cases cs <;> simp [wrn] at h <;> subst h <;> simp
 | cons v vs ih =>
  cases cs with
  | nil => simp [wrn] at h
  | cons c r =>
   simp only [wrn, Option.map_eq_some_iff] at h
   obtain ⟨x, hx, rfl⟩ := h
   obtain ⟨h1, h2⟩ := ih hx
   exact ⟨by simp; omega, by simp [h2]⟩
theorem wr_eq {cs vs cs' : List Value} {o : Nat} (h : wr cs o vs = some cs') (hne : 0 < vs.length) : o + vs.length ≤ cs.length ∧ cs' = cs.take o ++ vs ++ cs.drop (o + vs.length) := by
 induction cs generalizing o cs' with
 | nil =>
  cases o with
  | zero => obtain ⟨h1, h2⟩ := wrn_eq (cs := []) (by simpa [wr] using h); simp at h1; simp [h1] at hne
  | succ o => cases vs <;> simp [wr] at h hne
 | cons c r ih =>
  cases o with
  | zero => obtain ⟨h1, h2⟩ := wrn_eq (cs := c :: r) (by simpa [wr] using h); exact ⟨by simpa using h1, by simp [h2]⟩
  | succ o =>
   simp only [wr, Option.map_eq_some_iff] at h
   obtain ⟨x, hx, rfl⟩ := h
   obtain ⟨h1, h2⟩ := ih hx
   refine ⟨by simp; omega, ?_⟩
   rw [show o + 1 + vs.length = (o + vs.length) + 1 from by omega]
   simp [h2]
theorem Jbo (w : World) (o : Obj) : Grow w (w.alloc o) := Go.RowKit.Below.alloc (Go.RowKit.Below.refl _ _) (Nat.le_refl _) o
theorem Jgi {P : Program} (t : TypeId) (v : Value) (w : World) : (newVar t v).run P w = .ok ⟨w.heap.size, 0, none⟩ (w.alloc (.cells v.cells t)) := by
 simp [newVar, newRow, newObj, Sem.run]
section rules
variable {P : Program} {n : Nat} {cx : Cx} {Q : Jbe} {e : X4} {L : List Chunk} {ops : Array Oper} {rest : List Oper}
variable {d : Nat} {ty : TypeId} {pos : String} {af : Array Edge} {g : Option (Nat × Bool)}
theorem sat_new {w : World} (hF : Fr cx w) (hS : Sat cx w L) (cs : List Value) (T : TypeId) : Sat cx (w.alloc (.cells cs.toArray T)) (L ++ [Jf w.heap.size cs T]) :=
 hS.snoc hF (Jbo w _) (S := fun x => x = w.heap.size) ⟨fun _ => Iff.rfl, heap_alloc_new w _⟩ (fun b hb => by subst hb; exact ⟨Nat.le_refl _, by simp⟩)
theorem W1 {T : TypeId} {X : Operand} {x : Value} {cs : List Value} (hw : Yi ops ⟨some d, .box T X, ty, pos, af, g⟩ e = true) (hn : Nat.blt d n = true) (hx : ev e X = x) (hc : x.cells.toList = cs)
  (k : ∀ b, At cx (WL P n ops Q rest) (upd e d (.pointer (some ⟨b, 0, none⟩))) (L ++ [Jf b cs T])) : At cx (WL P n ops Q (⟨some d, .box T X, ty, pos, af, g⟩ :: rest)) e L :=
 Jdi hw rfl hn fun w hF hS => ⟨.pointer (some ⟨w.heap.size, 0, none⟩), w.alloc (.cells cs.toArray T), by
  subst hc
  simp [execOp, Instr.box, Jgi, hx], (k w.heap.size).out _ (hF.grow (Jbo w _)) (sat_new hF hS cs T)⟩
theorem Xx {T : TypeId} {z : Value} {cs : List Value} (hz : ∀ w, (zeroValue T).run P w = .ok z w) (hc : z.cells.toList = cs) (hw : Yi ops ⟨some d, .alloc T, ty, pos, af, g⟩ e = true) (hn : Nat.blt d n = true)
  (k : ∀ b, At cx (WL P n ops Q rest) (upd e d (.pointer (some ⟨b, 0, none⟩))) (L ++ [Jf b cs T])) : At cx (WL P n ops Q (⟨some d, .alloc T, ty, pos, af, g⟩ :: rest)) e L :=
 Jdi hw rfl hn fun w hF hS => ⟨.pointer (some ⟨w.heap.size, 0, none⟩), w.alloc (.cells cs.toArray T), by
  subst hc
  simp [execOp, Instr.alloc, hz, Jgi], (k w.heap.size).out _ (hF.grow (Jbo w _)) (sat_new hF hS cs T)⟩
theorem Ql {w : World} {i b : Nat} {cs : List Value} {T : TypeId} (hS : Sat cx w L) (hL : L[i]? = some (Jf b cs T)) : w.heap[b]? = some (.cells cs.toArray T (0, 0)) := by
 obtain ⟨fp, h1, _, _⟩ := hS.out
 exact (h1 i _ hL).2
theorem Jc3 {w : World} {b o : Nat} {cs : List Value} {T : TypeId} (h : w.heap[b]? = some (.cells cs.toArray T (0, 0))) : w.cell? ⟨b, o, none⟩ = cs[o]? := by
 simp [World.cell?, h]
theorem W4 {T k b o : Nat} {vs : List Value} {w : World} (hA : ∀ w, (isAgg T).run P w = .ok true w) (hs : ∀ w, (sizeOf T).run P w = .ok k w) (hl : vs.length = k)
  (h : ∀ j v, vs[j]? = some v → w.cell? ⟨b, o + j, none⟩ = some v) : (loadVar T ⟨b, o, none⟩).run P w = .ok (.agg vs.toArray) w := by
 subst hl
 have := run_loadCells_list (P := P) (w := w) ⟨b, o, none⟩ vs (fun j v hv => by rw [Addr.add_lit]; exact h j v hv)
 simp [loadVar, hA, hs, this]
theorem Jbj {T b o : Nat} {v : Value} {w : World} (hA : ∀ w, (isAgg T).run P w = .ok false w) (h : w.cell? ⟨b, o, none⟩ = some v) : (loadVar T ⟨b, o, none⟩).run P w = .ok v w := by
 simp [loadVar, hA, Go.load, Sem.run, h]
theorem Jip {i : Nat} {T T0 b o : Nat} {A : Operand} {cs : List Value} {v : Value} (hA : ∀ w, (isAgg T).run P w = .ok false w)
  (hw : Yi ops ⟨some d, .load T A, ty, pos, af, g⟩ e = true) (hn : Nat.blt d n = true) (hp : ev e A = .pointer (some ⟨b, o, none⟩)) (hL : L[i]? = some (Jf b cs T0)) (hv : rg cs o = some v)
  (k : At cx (WL P n ops Q rest) (upd e d v) L) : At cx (WL P n ops Q (⟨some d, .load T A, ty, pos, af, g⟩ :: rest)) e L :=
 Jdi hw rfl hn fun w hF hS => ⟨v, w, by
  have hc := Jc3 (o := o) (Ql hS hL)
  rw [← rg_eq, hv] at hc
  simp [execOp, Instr.loadAt, Instr.sureAddr, hp, Jbj hA hc], k.out w hF hS⟩
theorem Xb {i : Nat} {T T0 b o sz : Nat} {A : Operand} {cs vs : List Value} (hA : ∀ w, (isAgg T).run P w = .ok true w) (hs : ∀ w, (sizeOf T).run P w = .ok sz w)
  (hw : Yi ops ⟨some d, .load T A, ty, pos, af, g⟩ e = true) (hn : Nat.blt d n = true) (hp : ev e A = .pointer (some ⟨b, o, none⟩)) (hL : L[i]? = some (Jf b cs T0)) (hv : rd cs o sz = some vs)
  (k : At cx (WL P n ops Q rest) (upd e d (.agg vs.toArray)) L) : At cx (WL P n ops Q (⟨some d, .load T A, ty, pos, af, g⟩ :: rest)) e L :=
 Jdi hw rfl hn fun w hF hS => ⟨.agg vs.toArray, w, by
  obtain ⟨h1, h2⟩ := Jht hv
  have hr := W4 (P := P) (w := w) (b := b) (o := o) hA hs h1 (fun j v hj => by rw [Jc3 (Ql hS hL)]; exact h2 j v hj)
  simp [execOp, Instr.loadAt, Instr.sureAddr, hp, hr], k.out w hF hS⟩
theorem Wz {i : Nat} {T T0 b o sz : Nat} {A X : Operand} {x : Value} {cs cs' vs : List Value} (hs : ∀ w, (sizeOf T).run P w = .ok sz w)
  (hw : Yi ops ⟨none, .store T A X, ty, pos, af, g⟩ e = true) (hp : ev e A = .pointer (some ⟨b, o, none⟩)) (hx : ev e X = x) (hc : x.cells.toList = vs) (hsz : vs.length = sz) (hpos : Nat.blt 0 sz = true)
  (hone : vs.all Value.oneCell' = true)
  (hL : L[i]? = some (Jf b cs T0)) (hv : wr cs o vs = some cs')
  (k : At cx (WL P n ops Q rest) e (L.set i (Jf b cs' T0))) : At cx (WL P n ops Q (⟨none, .store T A X, ty, pos, af, g⟩ :: rest)) e L :=
 l_acts hw rfl fun w hF hS => by
  have hb := Ql hS hL
  have hpos' : 0 < vs.length := by rw [hsz]; simpa using hpos
  obtain ⟨h1, h2⟩ := wr_eq hv hpos'
  have hst := run_storeCells_at P b o T0 vs 0 cs.toArray w hb (by simpa using h1) (by simpa using hone)
  refine ⟨w.setRow b cs'.toArray, ?_, ?_⟩
  ·have hsz' : x.cells.size = sz := by rw [← hsz, ← hc]; simp
   simp only [Nat.add_zero, List.append_assoc] at hst
   simp only [execOp, Instr.storeAt, Instr.sureAddr, storeVar, hp, hx, Sem.run_bind, Sem.run_pure, Result.andThen_ok, hs, hsz', ne_eq, not_true_eq_false, if_false, hc, hst]
   rw [h2]; simp
  ·have hset := setRow_heap w b cs.toArray cs'.toArray T0 (0, 0) hb
   refine k.out _ ⟨hF.os, hF.tape, hF.output, by simpa using hF.size, fun c hcn => ?_⟩ ?_
   ·rw [setRow_other w b c _ (fun e => ?_)]
    ·exact hF.block c hcn
    ·obtain ⟨fp, f1, f2, _⟩ := hS.out
     have := (f2 i b ((f1 i _ hL).1 b |>.2 rfl)).2.2
     subst e
     exact hcn this
   ·refine hS.set hF hL (by simp) fun S hSp hSo => ⟨S, ⟨hSp.1, hset⟩, fun c hc => ⟨by simpa using (hSo c hc).1, .inl hc⟩, fun c _ hcS => setRow_other w b c _ (fun e => hcS ((hSp.1 c).2 e))⟩
theorem J2 {d : Option Nat} {T fld b o fo ft fsz bo : Nat} {nm tg pk : String} {em : Bool} {X : Operand} {fs : Array Field} (hu : ∀ w, (underlying T).run P w = .ok (.struct fs) w)
  (hf : fs[fld]? = some ⟨nm, ft, fo, em, tg, pk, bo⟩) (hs : ∀ w, (sizeOf ft).run P w = .ok fsz w) (hsz : Nat.blt 0 fsz = true) (hp : ev e X = .pointer (some ⟨b, o, none⟩)) (w : World) :
  (execOp (ev e) ⟨d, .fieldAddr T X fld, ty, pos, af, g⟩).run P w = .ok (.value (.pointer (some ⟨b, o + fo, none⟩))) w := by
 have hne : fsz ≠ 0 := by have : 0 < fsz := by simpa using hsz
                          omega
 simp [execOp, Instr.fieldAt, hu, hf, Instr.sureAddr, hp, fieldPlace, hs, hne, Addr.add_lit]
def Ret (P : Program) (f : FuncId) (args : List Value) (v : Value) : Prop := ∀ w, Does P f args.toArray w fun v' w' => v' = v ∧ Grow w w'
theorem Jdc {f : FuncId} {A : Array Operand} {tys : Array TypeId} {args : List Value} (hc : ∀ args w, (callFunc f args).run P w = .ok (.enter f args) w) (ha : A.toList.map (ev e) = args) (w : World) :
  (execOp (ev e) ⟨some d, .call ⟨.value (.func f), A, tys⟩, ty, pos, af, g⟩).run P w = .ok (.enter f args.toArray) w := by
 subst ha
 have : (A.toList.map (ev e)).toArray = A.map (ev e) := by rw [← Array.toList_map, Array.toArray_toList]
 rw [this]
 simp only [execOp, resolve, ev, Deferred.ofValue, Sem.run_bind, Sem.run_pure, Result.andThen_ok, invoke, hc, Array.append_empty, Array.empty_append]
theorem Yq {f : FuncId} {A : Array Operand} {tys : Array TypeId} {args : List Value} {v : Value} (h : Ret P f args v) (hc : ∀ args w, (callFunc f args).run P w = .ok (.enter f args) w)
  (hw : Yi ops ⟨some d, .call ⟨.value (.func f), A, tys⟩, ty, pos, af, g⟩ e = true) (hn : Nat.blt d n = true) (ha : A.toList.map (ev e) = args)
  (k : At cx (WL P n ops Q rest) (upd e d v) L) : At cx (WL P n ops Q (⟨some d, .call ⟨.value (.func f), A, tys⟩, ty, pos, af, g⟩ :: rest)) e L :=
 l_calls hw rfl hn (Jdc hc ha) fun w hF hS => (h w).mono fun v' w' ⟨hv, hg⟩ => by
  subst hv
  exact k.out w' (hF.grow hg) (hS.grow hg)
theorem results_one {fn : Func} {t : Tmp} (h : fn.results = #[.tmp t]) (tmps : Array Value) (w : World) : (results fn tmps).run P w = .ok (tmps.getD t undef) w := by
 simp [results, h]
theorem results_two {fn : Func} {t u : Tmp} (h : fn.results = #[.tmp t, .tmp u]) (tmps : Array Value) (w : World) : (results fn tmps).run P w = .ok (.tuple #[tmps.getD t undef, tmps.getD u undef]) w := by
 simp [results, h]
theorem Jju {fn : Func} {t u s : Tmp} (h : fn.results = #[.tmp t, .tmp u, .tmp s]) (tmps : Array Value) (w : World) : (results fn tmps).run P w = .ok (.tuple #[tmps.getD t undef, tmps.getD u undef, tmps.getD s undef]) w := by
 simp [results, h]
theorem Jdo {fn : Func} {R : Value → World → Prop} {t : Tmp} {v : Value} (hr : fn.results = #[.tmp t]) (ht : e t = v) (k : ∀ w, Fr cx w → Sat cx w L → R v w) : At cx (Jfl P fn R .ret) e L :=
 ⟨fun w hF hS tmps hs => ⟨v, by rw [results_one hr, hs, ht], k w hF hS⟩⟩
theorem U9 {fn : Func} {R : Value → World → Prop} {t u : Tmp} {v1 v2 : Value} (hr : fn.results = #[.tmp t, .tmp u]) (h1 : e t = v1) (h2 : e u = v2) (k : ∀ w, Fr cx w → Sat cx w L → R (.tuple #[v1, v2]) w) : At cx (Jfl P fn R .ret) e L :=
 ⟨fun w hF hS tmps hs => ⟨.tuple #[v1, v2], by rw [results_two hr, hs, hs, h1, h2], k w hF hS⟩⟩
theorem ret3 {fn : Func} {R : Value → World → Prop} {t u s : Tmp} {v1 v2 v3 : Value} (hr : fn.results = #[.tmp t, .tmp u, .tmp s]) (h1 : e t = v1) (h2 : e u = v2) (h3 : e s = v3) (k : ∀ w, Fr cx w → Sat cx w L → R (.tuple #[v1, v2, v3]) w) : At cx (Jfl P fn R .ret) e L :=
 ⟨fun w hF hS tmps hs => ⟨.tuple #[v1, v2, v3], by rw [Jju hr, hs, hs, hs, h1, h2, h3], k w hF hS⟩⟩
theorem Jjw {fn : Func} {t T b : Nat} {v : Value} (h : fn.results = #[.cell t T]) (tmps : Array Value) (w : World) (ht : tmps.getD t undef = .pointer (some ⟨b, 0, none⟩)) (hl : (loadVar T ⟨b, 0, none⟩).run P w = .ok v w) :
  (results fn tmps).run P w = .ok v w := by
 rw [Array.getD_eq_getD_getElem?] at ht
 simp [results, h, ht, asAddr, hl]
theorem Jjd {fn : Func} {t T b u : Nat} {v : Value} (h : fn.results = #[.cell t T, .tmp u]) (tmps : Array Value) (w : World) (ht : tmps.getD t undef = .pointer (some ⟨b, 0, none⟩)) (hl : (loadVar T ⟨b, 0, none⟩).run P w = .ok v w) :
  (results fn tmps).run P w = .ok (.tuple #[v, tmps.getD u undef]) w := by
 rw [Array.getD_eq_getD_getElem?] at ht
 simp [results, h, ht, asAddr, hl]
theorem retC {i : Nat} {fn : Func} {R : Value → World → Prop} {t T T0 b sz : Nat} {cs vs : List Value} (hA : ∀ w, (isAgg T).run P w = .ok true w) (hs : ∀ w, (sizeOf T).run P w = .ok sz w) (hr : fn.results = #[.cell t T])
  (ht : e t = .pointer (some ⟨b, 0, none⟩)) (hL : L[i]? = some (Jf b cs T0)) (hv : rd cs 0 sz = some vs) (k : ∀ w, Fr cx w → Sat cx w L → R (.agg vs.toArray) w) : At cx (Jfl P fn R .ret) e L :=
 ⟨fun w hF hS tmps hts => ⟨.agg vs.toArray, by
  obtain ⟨h1, h2⟩ := Jht hv
  have hl := W4 (P := P) (w := w) (b := b) (o := 0) hA hs h1 (fun j v hj => by rw [Jc3 (Ql hS hL)]; exact h2 j v hj)
  exact Jjw hr tmps w (by rw [hts, ht]) hl, k w hF hS⟩⟩
theorem Jad {i : Nat} {fn : Func} {R : Value → World → Prop} {t T T0 b sz u : Nat} {cs vs : List Value} {v2 : Value} (hA : ∀ w, (isAgg T).run P w = .ok true w) (hs : ∀ w, (sizeOf T).run P w = .ok sz w) (hr : fn.results = #[.cell t T, .tmp u])
  (ht : e t = .pointer (some ⟨b, 0, none⟩)) (hL : L[i]? = some (Jf b cs T0)) (hv : rd cs 0 sz = some vs) (h2 : e u = v2) (k : ∀ w, Fr cx w → Sat cx w L → R (.tuple #[.agg vs.toArray, v2]) w) : At cx (Jfl P fn R .ret) e L :=
 ⟨fun w hF hS tmps hts => ⟨.tuple #[.agg vs.toArray, v2], by
  obtain ⟨h1, h2'⟩ := Jht hv
  have hl := W4 (P := P) (w := w) (b := b) (o := 0) hA hs h1 (fun j v hj => by rw [Jc3 (Ql hS hL)]; exact h2' j v hj)
  rw [Jjd hr tmps w (by rw [hts, ht]) hl, hts, h2], k w hF hS⟩⟩
theorem fin {w0 : World} {L : List Chunk} {v v' : Value} (h : v' = v) : ∀ w, Fr ⟨w0, fun _ => False⟩ w → Sat ⟨w0, fun _ => False⟩ w L → (v' = v ∧ Grow w0 w) :=
 fun w hF _ => ⟨h, hF.os, hF.tape, hF.output, hF.size, fun k hk => hF.block k (by simp [Cx.own]; exact hk)⟩
theorem Va {f : FuncId} {fn : Func} {c : Code} {args : List Value} {v : Value} (hf : P.funcs[f]? = some fn) (hb : fn.body = some c) (hn : fn.ntmps = n) (hle : Nat.ble args.length n = true)
  (h : ∀ w, At ⟨w, fun _ => False⟩ (WC P n c (Jfl P fn fun v' w' => v' = v ∧ Grow w w')) (lget args) []) : Ret P f args v :=
 fun w => enter hf hb hn hle (fun _ => False) [] (Sat.nil _ _) (h w)
def mkE : List (Nat × Value) → X4 → X4
 | [], g => g
 | (a, v) :: r, g => fun t => bif Nat.beq t a then v else mkE r g t
def Jhb (e : X4) : List (Nat × Value) → Prop
 | [] => True
 | (a, v) :: r => e a = v ∧ Jhb e r
theorem Jja (e : X4) : ∀ l, Jhb e l → mkE l e = e
 | [], _ => rfl
 | (a, v) :: r, ⟨h, hr⟩ => by
  funext t
  simp only [mkE, beq_eq, Jja e r hr]
  by_cases ht : t = a
  ·simp [ht, h]
  ·simp [ht]
structure RoundEnd {σ : Type} (cx : Cx) (st : σ → List (Nat × Value)) (hp : σ → List Chunk) (I : σ → Prop) (m : Nat) (μ : σ → Nat) (e : X4) (w : World) : Prop where
 out : ∃ s, Jhb e (st s) ∧ Fr cx w ∧ Sat cx w (hp s) ∧ I s ∧ μ s < m
end rules
end Go.Vc

namespace Go.Vc
open Go
inductive Kd where
 | p
 | g (rs rds wrs : List Nat) (V : List Value → List (Option Chunk) → Value → Prop) (T : List Value → List (Option Chunk) → Value → List Chunk)
def Kd.d (rds : List Nat) (v0 : Value) : Kd := .g [] rds [] (fun _ _ v => v = v0) (fun _ _ _ => [])
abbrev Look := Nat → Option Chunk
def Jb0 (L : List Chunk) : Look := fun i => L[i]?
def Kd.rs : Kd → List Nat | .p => [] | .g rs _ _ _ _ => rs
def Kd.rds : Kd → List Nat | .p => [] | .g _ rds _ _ _ => rds
def Kd.wrs : Kd → List Nat | .p => [] | .g _ _ wrs _ _ => wrs
def Kd.V (P : Program) (o : Oper) (s : Kd) (e : X4) (l : Look) (v : Value) : Prop :=
 match s with
 | .p => ∀ w, (execOp (ev e) o).run P w = .ok (.value v) w
 | .g rs rds _ V _ => V (rs.map e) (rds.map l) v
def Kd.T (s : Kd) (e : X4) (l : Look) (v : Value) : List (Nat × Chunk) :=
 match s with
 | .p => []
 | .g rs rds wrs _ T => wrs.zip (T (rs.map e) (rds.map l) v)
def Wq (L : List Chunk) : List (Nat × Chunk) → List Chunk
 | [] => L
 | (i, c) :: r => Wq (L.set i c) r
def Jcu (e : X4) (d : Option Nat) (v : Value) : X4 := match d with | some d => upd e d v | none => e
def RunsTo (P : Program) (ρ : Operand → Value) (o : Oper) (w : World) (R : Value → World → Prop) : Prop :=
 match (execOp ρ o).run P w with
 | .ok (.value v) w' => R v w'
 | .ok .skip w' => R undef w'
 | .ok (.enter f args) w' => Does P f args w' R
 | _ => False
theorem RunsTo.mono {P : Program} {ρ : Operand → Value} {o : Oper} {w : World} {R R' : Value → World → Prop} (h : RunsTo P ρ o w R) (hr : ∀ v w', R v w' → R' v w') : RunsTo P ρ o w R' := by
 unfold RunsTo at *
 generalize (execOp ρ o).run P w = r at *
 cases r with
 | halt x w' => exact h
 | ok nx w' =>
  cases nx <;> first | exact hr _ _ h | exact Does.mono h hr | exact h
structure LV (P : Program) (cx : Cx) (o : Oper) (s : Kd) (e : X4) (L : List Chunk) : Prop where
 out : ∀ (w : World) (L' : List Chunk), Fr cx w → Sat cx w L' → L'.length = L.length → (∀ i, i ∈ s.rds ∨ i ∈ s.wrs → L'[i]? = L[i]?) →
  RunsTo P (ev e) o w (fun v w' => s.V P o e (Jb0 L) v ∧ Fr cx w' ∧ Sat cx w' (Wq L' (s.T e (Jb0 L) v)))
inductive Sq (P : Program) (cx : Cx) (ops : Array Oper) (F : X4 → List Chunk → Prop) : List Oper → List Kd → X4 → List Chunk → Prop
 | nil {e : X4} {L : List Chunk} (h : F e L) : Sq P cx ops F [] [] e L
 | pass {o : Oper} {os : List Oper} {s : Kd} {ss : List Kd} {e : X4} {L : List Chunk} (hw : Yi ops o e = false) (h : Sq P cx ops F os ss (Jcu e o.dst undef) L) : Sq P cx ops F (o :: os) (s :: ss) e L
 | take {o : Oper} {os : List Oper} {s : Kd} {ss : List Kd} {e : X4} {L : List Chunk} (hw : Yi ops o e = true) (hi : ∃ v, s.V P o e (Jb0 L) v) (hl : LV P cx o s e L)
   (h : ∀ v, s.V P o e (Jb0 L) v → Sq P cx ops F os ss (Jcu e o.dst v) (Wq L (s.T e (Jb0 L) v))) : Sq P cx ops F (o :: os) (s :: ss) e L
def binding (o : Oper) (i : Nat) : Bool := o.after.toList.any fun x => Region.binds .any x && Nat.beq x.on i
def Jgd (l : List Oper) : Nat → Nat → Nat → Bool
 | 0, _, _ => false
 | f + 1, k, i =>
  match l[k]? with
  | none => false
  | some o => binding o i || o.after.toList.any fun x => Region.binds .any x && Jgd l f x.on i
def Jg7 (a b : List Nat) : Bool := a.any fun x => b.any fun y => Nat.beq x y
def Jcz (ops : Array Oper) (o1 o2 : Oper) (s1 s2 : Kd) : Bool :=
 Jg7 o1.dst.toList (o2.looksAt ops) || Jg7 o1.dst.toList o2.dst.toList || Jg7 o2.dst.toList (o1.looksAt ops) ||
 Jg7 s1.wrs s2.rds || Jg7 s1.wrs s2.wrs || Jg7 s1.rds s2.wrs
def subs (a b : List Nat) : Bool := a.all fun x => b.any fun y => Nat.beq x y
def checkD (n : Nat) (l : List Oper) (sp : List Kd) : Bool :=
 Nat.beq l.length sp.length && Region.noSelect l.toArray &&
 (List.range l.length).all fun k =>
  match l[k]?, sp[k]? with
  | some o, some s =>
   (o.after.toList.all fun x => !Region.binds .any x || Nat.blt x.on k) && (o.dst.all fun d => Nat.blt d n) && subs s.rs (o.looksAt l.toArray) &&
   (List.range k).all fun i =>
    match l[i]?, sp[i]? with
    | some o1, some s1 => !Jcz l.toArray o1 o s1 s || Jgd l 3 k i
    | _, _ => false
  | _, _ => false
theorem Jdk {a b : List Nat} {x : Nat} (ha : x ∈ a) (hb : x ∈ b) : Jg7 a b = true := by
 unfold Jg7
 rw [List.any_eq_true]
 exact ⟨x, ha, List.any_eq_true.2 ⟨x, hb, by simp⟩⟩
section sound
variable {P : Program} {n : Nat} {cx : Cx} {Q : Jbe} {l : List Oper} {sp : List Kd} {e0 : X4} {L0 : List Chunk}
def od (l : List Oper) (k : Nat) : Oper := l.getD k default
def sd (sp : List Kd) (k : Nat) : Kd := sp.getD k .p
def EL (P : Program) (l : List Oper) (sp : List Kd) (e0 : X4) (L0 : List Chunk) (S : Nat → Bool) (val : Nat → Value) : Nat → X4 × List Chunk
 | 0 => (e0, L0)
 | k + 1 =>
  let x := EL P l sp e0 L0 S val k
  if S k then (Jcu x.1 (od l k).dst (val k), if Yi l.toArray (od l k) x.1 = true then Wq x.2 ((sd sp k).T x.1 (Jb0 x.2) (val k)) else x.2) else x
structure Ok (n : Nat) (l : List Oper) (sp : List Kd) : Prop where
 len : l.length = sp.length
 nosel : Region.noSelect l.toArray = true
 back : ∀ k x, k < l.length → x ∈ (od l k).after.toList → Region.binds .any x = true → x.on < k
 dst : ∀ k d, k < l.length → (od l k).dst = some d → Nat.blt d n = true
 rs : ∀ k t, k < l.length → t ∈ (sd sp k).rs → t ∈ (od l k).looksAt l.toArray
 ord : ∀ k i, k < l.length → i < k → Jcz l.toArray (od l i) (od l k) (sd sp i) (sd sp k) = true → Jgd l 3 k i = true
theorem ok_of (h : checkD n l sp = true) : Ok n l sp := by
 unfold checkD at h
 simp only [Bool.and_eq_true, List.all_eq_true, List.mem_range] at h
 obtain ⟨⟨h1, h2⟩, h3⟩ := h
 have hlen : l.length = sp.length := by simpa using h1
 have key : ∀ k, k < l.length → l[k]? = some (od l k) ∧ sp[k]? = some (sd sp k) := by
  intro k hk
  have hk' : k < sp.length := by omega
  exact ⟨by simp [od, List.getD_eq_getElem?_getD, List.getElem?_eq_getElem hk], by simp [sd, List.getD_eq_getElem?_getD, List.getElem?_eq_getElem hk']⟩
 have h4 : ∀ k, k < l.length → _ := fun k hk => by
  have := h3 k hk
  rw [(key k hk).1, (key k hk).2] at this
  simp only [Bool.and_eq_true, List.all_eq_true, List.mem_range] at this
  exact this
 refine ⟨hlen, h2, ?_, ?_, ?_, ?_⟩
 ·intro k x hk hx hb
  have := (h4 k hk).1.1.1
  have := this x hx
  simpa [hb] using this
 ·intro k d hk hd
  have := (h4 k hk).1.1.2
  rw [hd] at this
  simpa using this
 ·intro k t hk ht
  have := (h4 k hk).1.2
  unfold subs at this
  rw [List.all_eq_true] at this
  obtain ⟨y, hy, hyt⟩ := List.any_eq_true.1 (this t ht)
  have : t = y := by simpa using hyt
  rw [this]; exact hy
 ·intro k i hk hi hc
  have := (h4 k hk).2 i hi
  rw [(key i (by omega)).1, (key i (by omega)).2] at this
  simpa [hc] using this
def Jia (l : List Oper) (S : Nat → Prop) (k : Nat) : Prop := ∀ x ∈ (od l k).after.toList, Region.binds .any x = true → S x.on
theorem reach_in (S : Nat → Prop) (hS : ∀ k, k < l.length → S k → Jia l S k) (hb : ∀ k x, k < l.length → x ∈ (od l k).after.toList → Region.binds .any x = true → x.on < k) :
  ∀ f k i, k < l.length → Jia l S k → Jgd l f k i = true → S i := by
 intro f
 induction f with
 | zero => intro k i _ _ h; simp [Jgd] at h
 | succ f ih =>
  intro k i hk hc h
  have hlk : l[k]? = some (od l k) := by simp [od, List.getD_eq_getElem?_getD, List.getElem?_eq_getElem hk]
  simp only [Jgd, hlk, Bool.or_eq_true] at h
  rcases h with h | h
  ·unfold binding at h
   rw [List.any_eq_true] at h
   obtain ⟨x, hx, hxb⟩ := h
   simp only [Bool.and_eq_true] at hxb
   have : x.on = i := by simpa using hxb.2
   rw [← this]
   exact hc x hx hxb.1
  ·rw [List.any_eq_true] at h
   obtain ⟨x, hx, hxb⟩ := h
   simp only [Bool.and_eq_true] at hxb
   have hlt := hb k x hk hx hxb.1
   exact ih x.on i (by omega) (hS x.on (by omega) (hc x hx hxb.1)) hxb.2
theorem Jdw (T : List (Nat × Chunk)) : ∀ L : List Chunk, (Wq L T).length = L.length := by
 induction T with
 | nil => intro L; rfl
 | cons p T ih => intro L; obtain ⟨i, c⟩ := p; simp [Wq, ih]
theorem Ug (T : List (Nat × Chunk)) : ∀ (L : List Chunk) (i : Nat), (∀ p ∈ T, p.1 ≠ i) → (Wq L T)[i]? = L[i]? := by
 induction T with
 | nil => intro L i _; rfl
 | cons p T ih =>
  intro L i h
  obtain ⟨j, c⟩ := p
  simp only [Wq]
  rw [ih _ i (fun p hp => h p (List.mem_cons_of_mem _ hp)), List.getElem?_set_ne]
  exact h (j, c) (List.mem_cons_self ..)
theorem Jfc (T : List (Nat × Chunk)) : ∀ (L L' : List Chunk) (i : Nat), L.length = L'.length → L[i]? = L'[i]? → (Wq L T)[i]? = (Wq L' T)[i]? := by
 induction T with
 | nil => intro L L' i _ h; exact h
 | cons p T ih =>
  intro L L' i hl h
  obtain ⟨j, c⟩ := p
  simp only [Wq]
  refine ih _ _ i (by simp [hl]) ?_
  by_cases hji : j = i
  ·subst hji
   rw [List.getElem?_set, List.getElem?_set, if_pos rfl, if_pos rfl, hl]
  ·rw [List.getElem?_set_ne hji, List.getElem?_set_ne hji, h]
theorem T_in (s : Kd) (e : X4) (lk : Look) (v : Value) : ∀ p ∈ s.T e lk v, p.1 ∈ s.wrs := by
 intro p hp
 cases s with
 | p => simp [Kd.T] at hp
 | g rs rds wrs V T =>
  simp only [Kd.T] at hp
  exact (List.of_mem_zip (a := p.1) (b := p.2) hp).1
theorem T_loc (s : Kd) {e e' : X4} {lk lk' : Look} (h1 : ∀ t ∈ s.rs, e t = e' t) (h2 : ∀ i ∈ s.rds, lk i = lk' i) (v : Value) : s.T e lk v = s.T e' lk' v := by
 cases s with
 | p => rfl
 | g rs rds wrs V T =>
  have h1' : rs.map e = rs.map e' := List.map_congr_left h1
  have h2' : rds.map lk = rds.map lk' := List.map_congr_left h2
  simp only [Kd.T, h1', h2']
theorem ev_loc {e e' : X4} {o : Oper} (hs : ∀ cs b, o.op ≠ .select cs b) {ops : Array Oper} (h : ∀ t ∈ o.looksAt ops, e t = e' t) : execOp (ev e) o = execOp (ev e') o := by
 refine execOp_congr o hs fun x hx => ?_
 cases x with
 | tmp t => exact h t (List.mem_append_left _ (List.mem_filterMap.2 ⟨.tmp t, by simpa using hx, rfl⟩))
 | const v => rfl
 | global g => rfl
 | func f => rfl
theorem V_loc {o : Oper} (s : Kd) (hs : ∀ cs b, o.op ≠ .select cs b) {ops : Array Oper} {e e' : X4} {lk lk' : Look} (h : ∀ t ∈ o.looksAt ops, e t = e' t) (h1 : ∀ t ∈ s.rs, e t = e' t) (h2 : ∀ i ∈ s.rds, lk i = lk' i) (v : Value) :
  s.V P o e lk v = s.V P o e' lk' v := by
 cases s with
 | p => simp only [Kd.V]; rw [ev_loc hs h]
 | g rs rds wrs V T =>
  have h1' : rs.map e = rs.map e' := List.map_congr_left h1
  have h2' : rds.map lk = rds.map lk' := List.map_congr_left h2
  simp only [Kd.V, h1', h2']
theorem V_locL {o : Oper} (s : Kd) (hs : ∀ cs b, o.op ≠ .select cs b) {ops : Array Oper} {e e' : X4} {L L' : List Chunk} (h : ∀ t ∈ o.looksAt ops, e t = e' t) (h1 : ∀ t ∈ s.rs, e t = e' t) (h2 : ∀ i ∈ s.rds, L[i]? = L'[i]?) (v : Value) :
  s.V P o e (Jb0 L) v = s.V P o e' (Jb0 L') v := V_loc s hs h h1 h2 v
theorem Jdb {o : Oper} {ops : Array Oper} {e e' : X4} (h : ∀ t ∈ o.looksAt ops, e t = e' t) : Yi ops o e = Yi ops o e' := by
 unfold Yi
 cases hg : o.guard with
 | none => rfl
 | some jb =>
  obtain ⟨j, b⟩ := jb
  simp only
  cases hd : (ops[j]?).bind (·.dst) with
  | none => rfl
  | some d =>
   have : e d = e' d := h d (by unfold Oper.looksAt; rw [hg]; exact List.mem_append_right _ (by simp [hd]))
   simp only [this]
theorem Jhu {e e' : X4} {t : Nat} (d : Option Nat) (v : Value) (h : d ≠ some t → e t = e' t) : Jcu e d v t = Jcu e' d v t := by
 cases d with
 | none => exact h (by simp)
 | some d =>
  by_cases ht : t = d
  ·subst ht; simp [Jcu, upd_same]
  ·simp only [Jcu]; rw [upd_ne _ _ _ _ ht, upd_ne _ _ _ _ ht]; exact h (by simpa using fun h => ht h.symm)
theorem Jbq {e : X4} {t : Nat} {d : Option Nat} (v : Value) (h : d ≠ some t) : Jcu e d v t = e t := by
 cases d with
 | none => rfl
 | some d => simp only [Jcu]; exact upd_ne _ _ _ _ (by simpa using fun h' => h (by rw [h']))
theorem Jf2 (S : Nat → Bool) (val : Nat → Value) : ∀ k, (EL P l sp e0 L0 S val k).2.length = L0.length := by
 intro k
 induction k with
 | zero => rfl
 | succ k ih =>
  simp only [EL]
  split
  ·split
   ·simp [Jdw, ih]
   ·exact ih
  ·exact ih
theorem Jjh {ops : Array Oper} {o1 o2 : Oper} {s1 s2 : Kd} {t : Nat} (h1 : o1.dst = some t) (h2 : t ∈ o2.looksAt ops) : Jcz ops o1 o2 s1 s2 = true := by
 unfold Jcz; rw [Jdk (a := o1.dst.toList) (x := t) (by simp [h1]) h2]; rfl
theorem clash_dd {ops : Array Oper} {o1 o2 : Oper} {s1 s2 : Kd} {t : Nat} (h1 : o1.dst = some t) (h2 : o2.dst = some t) : Jcz ops o1 o2 s1 s2 = true := by
 unfold Jcz; rw [Jdk (a := o1.dst.toList) (b := o2.dst.toList) (x := t) (by simp [h1]) (by simp [h2])]; simp
theorem clash_ld {ops : Array Oper} {o1 o2 : Oper} {s1 s2 : Kd} {t : Nat} (h1 : t ∈ o1.looksAt ops) (h2 : o2.dst = some t) : Jcz ops o1 o2 s1 s2 = true := by
 unfold Jcz; rw [Jdk (a := o2.dst.toList) (x := t) (by simp [h2]) h1]; simp
theorem Jg5 {ops : Array Oper} {o1 o2 : Oper} {s1 s2 : Kd} {i : Nat} (h1 : i ∈ s1.wrs) (h2 : i ∈ s2.rds ∨ i ∈ s2.wrs) : Jcz ops o1 o2 s1 s2 = true := by
 unfold Jcz
 rcases h2 with h2 | h2
 ·rw [Jdk h1 h2]; simp
 ·rw [Jdk (a := s1.wrs) (b := s2.wrs) h1 h2]; simp
theorem clash_rw {ops : Array Oper} {o1 o2 : Oper} {s1 s2 : Kd} {i : Nat} (h1 : i ∈ s1.rds ∨ i ∈ s1.wrs) (h2 : i ∈ s2.wrs) : Jcz ops o1 o2 s1 s2 = true := by
 unfold Jcz
 rcases h1 with h1 | h1
 ·rw [Jdk (a := s1.rds) (b := s2.wrs) h1 h2]; simp
 ·rw [Jdk (a := s1.wrs) (b := s2.wrs) h1 h2]; simp
theorem EL_agree (ok : Ok n l sp) {S S' : Nat → Bool} {val val' : Nat → Value} :
  ∀ k, k < l.length → (∀ i, i < k → Jgd l 3 k i = true → S i ∧ S' i ∧ val i = val' i) →
   (∀ i, i < k → S i → S' i → val i = val' i ∧
    ((∀ t ∈ (od l i).looksAt l.toArray, (EL P l sp e0 L0 S val i).1 t = (EL P l sp e0 L0 S' val' i).1 t) ∧
     (∀ r, r ∈ (sd sp i).rds ∨ r ∈ (sd sp i).wrs → (EL P l sp e0 L0 S val i).2[r]? = (EL P l sp e0 L0 S' val' i).2[r]?))) →
   ∀ j, j ≤ k → (∀ t ∈ (od l k).looksAt l.toArray, (EL P l sp e0 L0 S val j).1 t = (EL P l sp e0 L0 S' val' j).1 t) ∧
    (∀ r, r ∈ (sd sp k).rds ∨ r ∈ (sd sp k).wrs → (EL P l sp e0 L0 S val j).2[r]? = (EL P l sp e0 L0 S' val' j).2[r]?) := by
 intro k hk hcl hin j
 induction j with
 | zero => intro _; exact ⟨fun _ _ => rfl, fun _ _ => rfl⟩
 | succ j ih =>
  intro hj
  obtain ⟨ih1, ih2⟩ := ih (by omega)
  by_cases hb : S j ∧ S' j
  ·obtain ⟨hv, hl1, hl2⟩ := hin j (by omega) hb.1 hb.2
   have hw : Yi l.toArray (od l j) (EL P l sp e0 L0 S val j).1 = Yi l.toArray (od l j) (EL P l sp e0 L0 S' val' j).1 := Jdb hl1
   have hT : (sd sp j).T (EL P l sp e0 L0 S val j).1 (Jb0 (EL P l sp e0 L0 S val j).2) (val j) = (sd sp j).T (EL P l sp e0 L0 S' val' j).1 (Jb0 (EL P l sp e0 L0 S' val' j).2) (val' j) := by
    rw [hv]
    exact T_loc _ (fun t ht => hl1 t (ok.rs j t (by omega) ht)) (fun i hi => hl2 i (.inl hi)) _
   simp only [EL, if_pos hb.1, if_pos hb.2]
   refine ⟨fun t ht => ?_, fun r hr => ?_⟩
   ·rw [hv]; exact Jhu _ _ (fun _ => ih1 t ht)
   ·rw [hw, hT]
    split
    ·exact Jfc _ _ _ r (by rw [Jf2, Jf2]) (ih2 r hr)
    ·exact ih2 r hr
  ·have hnr : ¬ Jgd l 3 k j = true := fun hr => hb ⟨(hcl j (by omega) hr).1, (hcl j (by omega) hr).2.1⟩
   have hnc : ¬ Jcz l.toArray (od l j) (od l k) (sd sp j) (sd sp k) = true := fun hc => hnr (ok.ord k j hk (by omega) hc)
   have one : ∀ (X : Nat → Bool) (va : Nat → Value), (∀ t ∈ (od l k).looksAt l.toArray, (EL P l sp e0 L0 X va (j + 1)).1 t = (EL P l sp e0 L0 X va j).1 t) ∧
     (∀ r, r ∈ (sd sp k).rds ∨ r ∈ (sd sp k).wrs → (EL P l sp e0 L0 X va (j + 1)).2[r]? = (EL P l sp e0 L0 X va j).2[r]?) := by
    intro X va
    simp only [EL]
    split
    ·refine ⟨fun t ht => ?_, fun r hr => ?_⟩
     ·exact Jbq _ (fun hd => hnc (Jjh hd ht))
     ·split
      ·exact Ug _ _ r (fun p hp hpr => hnc (Jg5 (by rw [← hpr]; exact T_in _ _ _ _ p hp) hr))
      ·rfl
    ·exact ⟨fun _ _ => rfl, fun _ _ => rfl⟩
   refine ⟨fun t ht => ?_, fun r hr => ?_⟩
   ·rw [(one S val).1 t ht, (one S' val').1 t ht]; exact ih1 t ht
   ·rw [(one S val).2 r hr, (one S' val').2 r hr]; exact ih2 r hr
def Sc (l : List Oper) (S : Nat → Bool) : Prop := ∀ k, k < l.length → S k = true → Jia l (fun i => S i = true) k
theorem Ja3 (ok : Ok n l sp) {S : Nat → Bool} (hS : Sc l S) {k i : Nat} (hk : k < l.length) (hc : Jia l (fun i => S i = true) k) (h : Jgd l 3 k i = true) : S i = true :=
 reach_in (fun i => S i = true) (fun k hk h => hS k hk h) ok.back 3 k i hk hc h
theorem agree_all (ok : Ok n l sp) {S S' : Nat → Bool} {val val' : Nat → Value} (hS : Sc l S) (hS' : ∀ i, S i = true → S' i = true) (hv : ∀ i, S i = true → val i = val' i) :
  ∀ k, k < l.length → Jia l (fun i => S i = true) k → (∀ t ∈ (od l k).looksAt l.toArray, (EL P l sp e0 L0 S val k).1 t = (EL P l sp e0 L0 S' val' k).1 t) ∧
    (∀ r, r ∈ (sd sp k).rds ∨ r ∈ (sd sp k).wrs → (EL P l sp e0 L0 S val k).2[r]? = (EL P l sp e0 L0 S' val' k).2[r]?) := by
 intro k
 induction k using Nat.strongRecOn with
 | _ k ih =>
  intro hk hc
  exact EL_agree ok k hk (fun i hi hr => ⟨Ja3 ok hS hk hc hr, hS' i (Ja3 ok hS hk hc hr), hv i (Ja3 ok hS hk hc hr)⟩)
   (fun i hi hs _ => ⟨hv i hs, ih i hi (by omega) (hS i (by omega) hs)⟩) k (Nat.le_refl _)
theorem EL_congr (S : Nat → Bool) {val val' : Nat → Value} : ∀ k, (∀ i, i < k → val i = val' i) → EL P l sp e0 L0 S val k = EL P l sp e0 L0 S val' k := by
 intro k
 induction k with
 | zero => intro _; rfl
 | succ k ih =>
  intro h
  simp only [EL]
  rw [ih (fun i hi => h i (by omega)), h k (by omega)]
def Cons (P : Program) (l : List Oper) (sp : List Kd) (e0 : X4) (L0 : List Chunk) (S : Nat → Bool) (val : Nat → Value) (k : Nat) : Prop :=
 ∀ j, j < k → S j = true → if Yi l.toArray (od l j) (EL P l sp e0 L0 S val j).1 = true then (sd sp j).V P (od l j) (EL P l sp e0 L0 S val j).1 (Jb0 (EL P l sp e0 L0 S val j).2) (val j) else val j = undef
def full : Nat → Bool := fun _ => true
theorem drop_od {k : Nat} (hk : k < l.length) : l.drop k = od l k :: l.drop (k + 1) := by
 rw [List.drop_eq_getElem_cons hk]; simp [od, List.getD_eq_getElem?_getD, List.getElem?_eq_getElem hk]
theorem drop_sd {k : Nat} (hk : k < sp.length) : sp.drop k = sd sp k :: sp.drop (k + 1) := by
 rw [List.drop_eq_getElem_cons hk]; simp [sd, List.getD_eq_getElem?_getD, List.getElem?_eq_getElem hk]
theorem sq_at (ok : Ok n l sp) {F : X4 → List Chunk → Prop} (h : Sq P cx l.toArray F l sp e0 L0) : ∀ k, k ≤ l.length → ∀ val, Cons P l sp e0 L0 full val k →
  Sq P cx l.toArray F (l.drop k) (sp.drop k) (EL P l sp e0 L0 full val k).1 (EL P l sp e0 L0 full val k).2 := by
 intro k
 induction k with
 | zero => intro _ _ _; simpa [EL] using h
 | succ k ih =>
  intro hk val hc
  have h0 := ih (by omega) val (fun j hj => hc j (by omega))
  rw [drop_od (by omega), drop_sd (by have := ok.len; omega)] at h0
  have hck := hc k (by omega) rfl
  simp only [EL, full, if_true]
  cases h0 with
  | pass hw h1 =>
   rw [if_neg (by rw [hw]; simp)] at hck
   rw [if_neg (by rw [hw]; simp), hck]
   exact h1
  | take hw hi hl h1 =>
   rw [if_pos hw] at hck
   rw [if_pos hw]
   exact h1 _ hck
theorem fill (ok : Ok n l sp) {F : X4 → List Chunk → Prop} (h : Sq P cx l.toArray F l sp e0 L0) {S : Nat → Bool} {val : Nat → Value} (hS : Sc l S) (hc : Cons P l sp e0 L0 S val l.length) :
  ∀ k, k ≤ l.length → ∃ val', (∀ i, S i = true → val' i = val i) ∧ Cons P l sp e0 L0 full val' k := by
 intro k
 induction k with
 | zero => intro _; exact ⟨val, fun _ _ => rfl, fun j hj => by omega⟩
 | succ k ih =>
  intro hk
  obtain ⟨val', hv, hcf⟩ := ih (by omega)
  by_cases hSk : S k = true
  ·refine ⟨val', hv, fun j hj hf => ?_⟩
   by_cases hjk : j = k
   ·subst hjk
    have hj' := hc j (by omega) hSk
    obtain ⟨a1, a2⟩ := agree_all (P := P) (e0 := e0) (L0 := L0) ok (S' := full) (val' := val') hS (fun _ _ => rfl) (fun i hi => (hv i hi).symm) j (by omega) (hS j (by omega) hSk)
    rw [← Jdb (ops := l.toArray) a1, hv j hSk]
    split
    ·rename_i hw
     rw [if_pos hw] at hj'
     rw [← V_loc (lk := Jb0 (EL P l sp e0 L0 S val j).2) (lk' := Jb0 (EL P l sp e0 L0 full val' j).2) (sd sp j) (Region.noSelect_spec ok.nosel j _ · · (by simp [od, List.getD_eq_getElem?_getD, List.getElem?_eq_getElem (show j < l.length by omega)])) (ops := l.toArray) a1 (fun t ht => a1 t (ok.rs j t (by omega) ht)) (fun i hi => a2 i (.inl hi))]
     exact hj'
    ·rename_i hw
     rw [if_neg hw] at hj'
     exact hj'
   ·exact hcf j (by omega) hf
  ·have h0 := sq_at ok h k (by omega) val' hcf
   rw [drop_od (by omega), drop_sd (by have := ok.len; omega)] at h0
   have fin : ∀ v : Value, (if Yi l.toArray (od l k) (EL P l sp e0 L0 full val' k).1 = true then (sd sp k).V P (od l k) (EL P l sp e0 L0 full val' k).1 (Jb0 (EL P l sp e0 L0 full val' k).2) v else v = undef) →
     ∃ val'', (∀ i, S i = true → val'' i = val i) ∧ Cons P l sp e0 L0 full val'' (k + 1) := by
    intro v hvv
    refine ⟨fun i => if i = k then v else val' i, fun i hi => ?_, fun j hj hf => ?_⟩
    ·have : i ≠ k := fun e => hSk (by rw [← e]; exact hi)
     simp [this, hv i hi]
    ·have he : EL P l sp e0 L0 full (fun i => if i = k then v else val' i) j = EL P l sp e0 L0 full val' j := EL_congr full j (fun i hi => by
      have : i ≠ k := by omega
      simp [this])
     rw [he]
     by_cases hjk : j = k
     ·subst hjk
      simpa using hvv
     ·simp only [hjk, if_false]
      exact hcf j (by omega) hf
   cases h0 with
   | pass hw h1 => exact fin undef (by rw [if_neg (by rw [hw]; simp)])
   | take hw hi hl h1 =>
    obtain ⟨v, hv'⟩ := hi
    exact fin v (by rw [if_pos hw]; exact hv')
theorem tail_agree (ok : Ok n l sp) {S : Nat → Bool} {val : Nat → Value} (hS : Sc l S) {k : Nat} (hSk : S k = false) :
  ∀ j, k ≤ j → j ≤ l.length → (∀ t ∈ (od l k).looksAt l.toArray, (EL P l sp e0 L0 S val j).1 t = (EL P l sp e0 L0 S val k).1 t) ∧
    (∀ r, r ∈ (sd sp k).rds ∨ r ∈ (sd sp k).wrs → (EL P l sp e0 L0 S val j).2[r]? = (EL P l sp e0 L0 S val k).2[r]?) := by
 intro j hj
 obtain ⟨d, rfl⟩ := Nat.exists_eq_add_of_le hj
 clear hj
 induction d with
 | zero => intro _; exact ⟨fun _ _ => rfl, fun _ _ => rfl⟩
 | succ d ih =>
  intro hjl
  obtain ⟨a1, a2⟩ := ih (by omega)
  rw [show k + (d + 1) = (k + d) + 1 from rfl] at *
  generalize hjd : k + d = j at *
  have hj : k ≤ j := by omega
  simp only [EL]
  by_cases hSj : S j = true
  ·have hjk : k < j := by
    rcases Nat.lt_or_ge k j with h | h
    ·exact h
    ·have : j = k := by omega
     rw [this, hSk] at hSj; cases hSj
   have hnc : ¬ Jcz l.toArray (od l k) (od l j) (sd sp k) (sd sp j) = true := fun hc => by
    have := Ja3 ok hS (by omega) (hS j (by omega) hSj) (ok.ord j k (by omega) hjk hc)
    rw [hSk] at this; cases this
   rw [if_pos hSj]
   refine ⟨fun t ht => ?_, fun r hr => ?_⟩
   ·rw [← a1 t ht]
    exact Jbq _ (fun hd => hnc (clash_ld ht hd))
   ·rw [← a2 r hr]
    show (if _ then _ else _)[r]? = _
    split
    ·exact Ug _ _ r (fun p hp hpr => hnc (clash_rw hr (by rw [← hpr]; exact T_in _ _ _ _ p hp)))
    ·rfl
  ·rw [if_neg hSj]
   exact ⟨a1, a2⟩
theorem putD_comm {e : X4} {d1 d2 : Option Nat} {v1 v2 : Value} (h : ∀ t, d1 = some t → d2 ≠ some t) : Jcu (Jcu e d1 v1) d2 v2 = Jcu (Jcu e d2 v2) d1 v1 := by
 funext t
 by_cases h1 : d1 = some t
 ·have h2 := h t h1
  subst h1
  rw [Jbq _ h2]
  exact Jhu _ _ (fun hh => absurd rfl hh)
 ·rw [Jbq (d := d1) _ h1]
  exact Jhu _ _ (fun _ => Jbq _ h1)
theorem setAll_comm (A B : List (Nat × Chunk)) (L : List Chunk) (h : ∀ p ∈ A, ∀ q ∈ B, p.1 ≠ q.1) : Wq (Wq L A) B = Wq (Wq L B) A := by
 apply List.ext_getElem?
 intro i
 by_cases hA : ∃ p ∈ A, p.1 = i
 ·obtain ⟨p, hp, hpi⟩ := hA
  rw [Ug B _ i (fun q hq hqi => h p hp q hq (by omega))]
  exact Jfc A _ _ i (by simp [Jdw]) (Ug B _ i (fun q hq hqi => h p hp q hq (by omega))).symm
 ·have hA' : ∀ p ∈ A, p.1 ≠ i := fun p hp hpi => hA ⟨p, hp, hpi⟩
  rw [Ug A _ i hA']
  exact Jfc B _ _ i (by simp [Jdw]) (Ug A _ i hA')
def Ul (S : Nat → Bool) (k : Nat) : Nat → Bool := fun i => if i = k then true else S i
def Jd5 (val : Nat → Value) (k : Nat) (v : Value) : Nat → Value := fun i => if i = k then v else val i
theorem Jjf (S : Nat → Bool) (val : Nat → Value) (k : Nat) (v : Value) : ∀ j, j ≤ k → EL P l sp e0 L0 (Ul S k) (Jd5 val k v) j = EL P l sp e0 L0 S val j := by
 intro j
 induction j with
 | zero => intro _; rfl
 | succ j ih =>
  intro hj
  have hjk : j ≠ k := by omega
  simp only [EL, ih (by omega), Ul, Jd5, hjk, if_false]
theorem EL_step (ok : Ok n l sp) {S : Nat → Bool} {val : Nat → Value} (hS : Sc l S) {k : Nat} (hSk : S k = false) (v : Value) :
  ∀ j, k + 1 ≤ j → j ≤ l.length → EL P l sp e0 L0 (Ul S k) (Jd5 val k v) j =
   (Jcu (EL P l sp e0 L0 S val j).1 (od l k).dst v, if Yi l.toArray (od l k) (EL P l sp e0 L0 S val k).1 = true then Wq (EL P l sp e0 L0 S val j).2 ((sd sp k).T (EL P l sp e0 L0 S val k).1 (Jb0 (EL P l sp e0 L0 S val k).2) v) else (EL P l sp e0 L0 S val j).2) := by
 intro j hj
 obtain ⟨d, rfl⟩ := Nat.exists_eq_add_of_le hj
 clear hj
 induction d with
 | zero =>
  intro _
  have h1 : EL P l sp e0 L0 (Ul S k) (Jd5 val k v) (k + 1) = _ := rfl
  rw [h1]
  simp only [EL, Jjf S val k v k (Nat.le_refl _), Ul, Jd5, if_true, hSk]
  rfl
 | succ d ih =>
  intro hjl
  have ih := ih (by omega)
  rw [show k + 1 + (d + 1) = (k + 1 + d) + 1 from rfl] at *
  generalize hjd : k + 1 + d = j at *
  have hjk : j ≠ k := by omega
  by_cases hSj : S j = true
  ·have hnc : ¬ Jcz l.toArray (od l k) (od l j) (sd sp k) (sd sp j) = true := fun hc => by
    have := Ja3 ok hS (by omega) (hS j (by omega) hSj) (ok.ord j k (by omega) (by omega) hc)
    rw [hSk] at this; cases this
   have e1 : ∀ t ∈ (od l j).looksAt l.toArray, Jcu (EL P l sp e0 L0 S val j).1 (od l k).dst v t = (EL P l sp e0 L0 S val j).1 t :=
    fun t ht => Jbq _ (fun hd => hnc (Jjh hd ht))
   have e2 : ∀ r, r ∈ (sd sp j).rds ∨ r ∈ (sd sp j).wrs → (if Yi l.toArray (od l k) (EL P l sp e0 L0 S val k).1 = true then Wq (EL P l sp e0 L0 S val j).2 ((sd sp k).T (EL P l sp e0 L0 S val k).1 (Jb0 (EL P l sp e0 L0 S val k).2) v) else (EL P l sp e0 L0 S val j).2)[r]? = (EL P l sp e0 L0 S val j).2[r]? := by
    intro r hr
    split
    ·exact Ug _ _ r (fun p hp hpr => hnc (Jg5 (by rw [← hpr]; exact T_in _ _ _ _ p hp) hr))
    ·rfl
   have hT := T_loc (sd sp j) (e := Jcu (EL P l sp e0 L0 S val j).1 (od l k).dst v) (e' := (EL P l sp e0 L0 S val j).1)
    (lk := Jb0 (if Yi l.toArray (od l k) (EL P l sp e0 L0 S val k).1 = true then Wq (EL P l sp e0 L0 S val j).2 ((sd sp k).T (EL P l sp e0 L0 S val k).1 (Jb0 (EL P l sp e0 L0 S val k).2) v) else (EL P l sp e0 L0 S val j).2)) (lk' := Jb0 (EL P l sp e0 L0 S val j).2)
    (fun t ht => e1 t (ok.rs j t (by omega) ht)) (fun i hi => e2 i (.inl hi)) (val j)
   have hw := Jdb (ops := l.toArray) e1
   have h1 : EL P l sp e0 L0 (Ul S k) (Jd5 val k v) (j + 1) = (Jcu (EL P l sp e0 L0 (Ul S k) (Jd5 val k v) j).1 (od l j).dst (val j), if Yi l.toArray (od l j) (EL P l sp e0 L0 (Ul S k) (Jd5 val k v) j).1 = true then Wq (EL P l sp e0 L0 (Ul S k) (Jd5 val k v) j).2 ((sd sp j).T (EL P l sp e0 L0 (Ul S k) (Jd5 val k v) j).1 (Jb0 (EL P l sp e0 L0 (Ul S k) (Jd5 val k v) j).2) (val j)) else (EL P l sp e0 L0 (Ul S k) (Jd5 val k v) j).2) := by
    simp [EL, Ul, Jd5, hjk, hSj]
   have h2 : EL P l sp e0 L0 S val (j + 1) = (Jcu (EL P l sp e0 L0 S val j).1 (od l j).dst (val j), if Yi l.toArray (od l j) (EL P l sp e0 L0 S val j).1 = true then Wq (EL P l sp e0 L0 S val j).2 ((sd sp j).T (EL P l sp e0 L0 S val j).1 (Jb0 (EL P l sp e0 L0 S val j).2) (val j)) else (EL P l sp e0 L0 S val j).2) := by
    simp [EL, hSj]
   rw [h1, h2, ih]
   simp only
   rw [hw, hT]
   refine Prod.ext ?_ ?_
   ·exact putD_comm (fun t ht1 ht2 => hnc (clash_dd ht1 ht2))
   ·show (if _ then _ else _) = (if _ then _ else _)
    by_cases hwj : Yi l.toArray (od l j) (EL P l sp e0 L0 S val j).1 = true <;> by_cases hwk : Yi l.toArray (od l k) (EL P l sp e0 L0 S val k).1 = true
    ·simp only [hwj, hwk, if_true]
     exact setAll_comm _ _ _ (fun p hp q hq hpq => hnc (Jg5 (T_in _ _ _ _ p hp) (.inr (by rw [hpq]; exact T_in _ _ _ _ q hq))))
    ·simp only [hwj, hwk, if_true]; rfl
    ·simp only [hwj, hwk, if_true]; rfl
    ·simp only [hwj, hwk]; rfl
  ·have h1 : EL P l sp e0 L0 (Ul S k) (Jd5 val k v) (j + 1) = EL P l sp e0 L0 (Ul S k) (Jd5 val k v) j := by
    simp [EL, Ul, hjk, hSj]
   have h2 : EL P l sp e0 L0 S val (j + 1) = EL P l sp e0 L0 S val j := by simp [EL, hSj]
   rw [h1, h2, ih]
def Xn (listed : Array Bool) : Nat → Bool := fun k => listed.getD k false
theorem cons_step (ok : Ok n l sp) {S : Nat → Bool} {val : Nat → Value} (hS : Sc l S) {k : Nat} (hk : k < l.length) (hSk : S k = false) (hc : Cons P l sp e0 L0 S val l.length) {v : Value}
  (hv : if Yi l.toArray (od l k) (EL P l sp e0 L0 S val k).1 = true then (sd sp k).V P (od l k) (EL P l sp e0 L0 S val k).1 (Jb0 (EL P l sp e0 L0 S val k).2) v else v = undef) :
  Cons P l sp e0 L0 (Ul S k) (Jd5 val k v) l.length := by
 intro j hj hSj
 by_cases hjk : j = k
 ·subst hjk
  rw [Jjf S val j v j (Nat.le_refl _)]
  simpa [Jd5] using hv
 ·have hSj' : S j = true := by simpa [Ul, hjk] using hSj
  have hcj := hc j hj hSj'
  have hval : Jd5 val k v j = val j := by simp [Jd5, hjk]
  rw [hval]
  by_cases hlt : j < k
  ·rw [Jjf S val k v j (by omega)]
   exact hcj
  ·have hkj : k < j := by omega
   have hnc : ¬ Jcz l.toArray (od l k) (od l j) (sd sp k) (sd sp j) = true := fun hh => by
    have := Ja3 ok hS hj (hS j hj hSj') (ok.ord j k hj hkj hh)
    rw [hSk] at this; cases this
   rw [EL_step ok hS hSk v j (by omega) (by omega)]
   have e1 : ∀ t ∈ (od l j).looksAt l.toArray, Jcu (EL P l sp e0 L0 S val j).1 (od l k).dst v t = (EL P l sp e0 L0 S val j).1 t :=
    fun t ht => Jbq _ (fun hd => hnc (Jjh hd ht))
   have e2 : ∀ r, r ∈ (sd sp j).rds ∨ r ∈ (sd sp j).wrs → (if Yi l.toArray (od l k) (EL P l sp e0 L0 S val k).1 = true then Wq (EL P l sp e0 L0 S val j).2 ((sd sp k).T (EL P l sp e0 L0 S val k).1 (Jb0 (EL P l sp e0 L0 S val k).2) v) else (EL P l sp e0 L0 S val j).2)[r]? = (EL P l sp e0 L0 S val j).2[r]? := by
    intro r hr
    split
    ·exact Ug _ _ r (fun p hp hpr => hnc (Jg5 (by rw [← hpr]; exact T_in _ _ _ _ p hp) hr))
    ·rfl
   simp only
   rw [Jdb (ops := l.toArray) e1]
   split
   ·rename_i hw
    rw [if_pos hw] at hcj
    rw [V_locL (L' := (EL P l sp e0 L0 S val j).2) (sd sp j) (Region.noSelect_spec ok.nosel j _ · · (by simp [od, List.getD_eq_getElem?_getD, List.getElem?_eq_getElem hj])) (ops := l.toArray) e1 (fun t ht => e1 t (ok.rs j t hj ht)) (fun i hi => e2 i (.inl hi))]
    exact hcj
   ·rename_i hw
    rw [if_neg hw] at hcj
    exact hcj
theorem ready_mem {md : Region.Mode} {ops : Array Oper} {listed : Array Bool} {k : Nat} (h : k ∈ Region.ready md ops listed) :
  k < ops.size ∧ listed.getD k true = false ∧ ∃ o, ops[k]? = some o ∧ ∀ x ∈ o.after.toList, Region.binds md x = true → listed.getD x.on false = true := by
 unfold Region.ready at h
 rw [List.mem_filter] at h
 obtain ⟨h1, h2⟩ := h
 rw [List.mem_range] at h1
 simp only [Bool.and_eq_true, Bool.not_eq_true'] at h2
 obtain ⟨h2, h3⟩ := h2
 refine ⟨h1, h2, ops[k], Array.getElem?_eq_getElem h1, fun x hx hb => ?_⟩
 rw [Array.getElem?_eq_getElem h1] at h3
 simp only [Option.map_some, Option.getD_some] at h3
 have := Array.all_eq_true_iff_forall_mem.1 h3 x (by simpa using hx)
 simpa [hb] using this
theorem any_of (ok : Ok n l sp) (h : Sq P cx l.toArray (fun e L => At cx (Q .normal) e L) l sp e0 L0) : ∀ (fuel : Nat) (listed : Array Bool) (a : Act) (w : World) (val : Nat → Value), listed.size = l.length →
  Sc l (Xn listed) → Cons P l sp e0 L0 (Xn listed) val l.length →
  ((List.range l.length).filter fun k => !Xn listed k).length ≤ fuel →
  Sim n a (EL P l sp e0 L0 (Xn listed) val l.length).1 → Fr cx w → Sat cx w (EL P l sp e0 L0 (Xn listed) val l.length).2 →
  wpAny P .any l.toArray (lift n Q) fuel listed a w := by
 have final : ∀ (listed : Array Bool) (a : Act) (w : World) (val : Nat → Value), (∀ k, k < l.length → Xn listed k = true) → Cons P l sp e0 L0 (Xn listed) val l.length →
   Sim n a (EL P l sp e0 L0 (Xn listed) val l.length).1 → Fr cx w → Sat cx w (EL P l sp e0 L0 (Xn listed) val l.length).2 → lift n Q .normal a w := by
  intro listed a w val hall hc hs hF hS
  have he : ∀ k, k ≤ l.length → EL P l sp e0 L0 (Xn listed) val k = EL P l sp e0 L0 full val k := by
   intro k
   induction k with
   | zero => intro _; rfl
   | succ k ih => intro hk; simp only [EL, ih (by omega), hall k (by omega), full]
  have hcf : Cons P l sp e0 L0 full val l.length := fun j hj hf => by
   have := hc j hj (hall j hj)
   rwa [he j (by omega)] at this
  have h0 := sq_at ok h l.length (Nat.le_refl _) val hcf
  rw [List.drop_length, ok.len, List.drop_length, ← ok.len] at h0
  cases h0 with
  | nil hh =>
   rw [← he _ (Nat.le_refl _)] at hh
   exact ⟨_, hs, hh.out w hF hS⟩
 have ready_all : ∀ (listed : Array Bool), listed.size = l.length → Region.ready .any l.toArray listed = [] → ∀ k, k < l.length → Xn listed k = true := by
  intro listed hsz hr k
  induction k using Nat.strongRecOn with
  | _ k ih =>
   intro hk
   rcases Bool.eq_false_or_eq_true (Xn listed k) with hh | hh
   ·exact hh
   ·exfalso
    have : k ∈ Region.ready .any l.toArray listed := by
     unfold Region.ready
     rw [List.mem_filter]
     refine ⟨by simpa using hk, ?_⟩
     have hg : listed.getD k true = false := by
      have hh' : listed.getD k false = false := hh
      rw [Array.getD_eq_getD_getElem?, Array.getElem?_eq_getElem (by omega)] at hh' ⊢
      simpa using hh'
     have hok : l.toArray[k]? = some (od l k) := by simp [od, List.getD_eq_getElem?_getD, List.getElem?_eq_getElem hk]
     simp only [hg, Bool.not_false, Bool.true_and, hok, Option.map_some, Option.getD_some]
     rw [Array.all_eq_true_iff_forall_mem]
     intro x hx
     by_cases hb : Region.binds .any x = true
     ·have hlt := ok.back k x hk (by simpa using hx) hb
      have := ih x.on hlt (by omega)
      simp only [hb, Bool.not_true, Bool.false_or]
      exact this
     ·simp only [Bool.not_eq_true] at hb
      simp [hb]
    rw [hr] at this
    cases this
 intro fuel
 induction fuel with
 | zero =>
  intro listed a w val hsz hSc hc hcount hs hF hS
  have hall : ∀ k, k < l.length → Xn listed k = true := by
   intro k hk
   have h0 : (List.range l.length).filter (fun k => !Xn listed k) = [] := List.eq_nil_of_length_eq_zero (by omega)
   rw [List.filter_eq_nil_iff] at h0
   simpa using h0 k (by simpa using hk)
  refine ⟨?_, final listed a w val hall hc hs hF hS⟩
  cases hr : Region.ready .any l.toArray listed with
  | nil => rfl
  | cons x xs =>
   exfalso
   obtain ⟨h1, h2, _⟩ := ready_mem (md := .any) (ops := l.toArray) (listed := listed) (k := x) (by rw [hr]; simp)
   have h1' : x < l.length := by simpa using h1
   have := hall x h1'
   unfold Xn at this
   rw [Array.getD_eq_getD_getElem?, Array.getElem?_eq_getElem (by omega)] at this h2
   simp at this h2
   rw [this] at h2
   cases h2
 | succ fuel ih =>
  intro listed a w val hsz hSc hc hcount hs hF hS
  refine ⟨fun hr => final listed a w val (ready_all listed hsz hr) hc hs hF hS, fun k hk => ?_⟩
  obtain ⟨h1, h2, o, ho, hafter⟩ := ready_mem hk
  have hkl : k < l.length := by simpa using h1
  have hoe : o = od l k := by
   have : l[k]? = some o := by simpa using ho
   simp [od, List.getD_eq_getElem?_getD, this]
  subst hoe
  have hSk : Xn listed k = false := by
   unfold Xn
   rw [Array.getD_eq_getD_getElem?, Array.getElem?_eq_getElem (by omega)] at h2 ⊢
   simpa using h2
  have hclk : Jia l (fun i => Xn listed i = true) k := fun x hx hb => hafter x hx hb
  obtain ⟨val', hv, hcf⟩ := fill ok h hSc hc k (by omega)
  have h0 := sq_at ok h k (by omega) val' hcf
  rw [drop_od hkl, drop_sd (by have := ok.len; omega)] at h0
  obtain ⟨a1, a2⟩ := agree_all (P := P) (e0 := e0) (L0 := L0) ok (S' := full) (val' := val') hSc (fun _ _ => rfl) (fun i hi => (hv i hi).symm) k hkl hclk
  obtain ⟨b1, b2⟩ := tail_agree (P := P) (e0 := e0) (L0 := L0) (val := val) ok hSc hSk l.length (by omega) (Nat.le_refl _)
  have hsel : ∀ cs b, (od l k).op ≠ .select cs b := (Region.noSelect_spec ok.nosel k _ · · (by simpa using ho))
  have hSn : Xn (listed.setIfInBounds k true) = Ul (Xn listed) k := by
   funext i
   unfold Xn Ul
   simp only [Array.getD_eq_getD_getElem?, Array.getElem?_setIfInBounds]
   by_cases hik : i = k
   ·subst hik; simp [show i < listed.size by omega]
   ·have : ¬ k = i := fun e => hik e.symm
    simp [hik, this]
  have hScn : Sc l (Ul (Xn listed) k) := by
   intro j hj hSj x hx hb
   by_cases hjk : j = k
   ·subst hjk
    have := hclk x hx hb
    simp only [Ul]
    split
    ·rfl
    ·exact this
   ·have hSj' : Xn listed j = true := by simpa [Ul, hjk] using hSj
    have := hSc j hj hSj' x hx hb
    simp only [Ul]
    split
    ·rfl
    ·exact this
  have hcnt : ((List.range l.length).filter fun i => !Ul (Xn listed) k i).length ≤ fuel := by
   have hsub : ((List.range l.length).filter fun i => !Ul (Xn listed) k i).length < ((List.range l.length).filter fun i => !Xn listed i).length := by
    have e1 : (List.range l.length).filter (fun i => !Ul (Xn listed) k i) = ((List.range l.length).filter fun i => !Xn listed i).filter fun i => decide (i ≠ k) := by
     rw [List.filter_filter]
     apply List.filter_congr
     intro i _
     unfold Ul
     by_cases hik : i = k <;> simp [hik]
    rw [e1]
    refine List.length_filter_lt_length_iff_exists.2 ⟨k, ?_, by simp⟩
    rw [List.mem_filter]
    exact ⟨by simpa using hkl, by simp [hSk]⟩
   omega
  have hwa : Yi l.toArray (od l k) (EL P l sp e0 L0 (Xn listed) val l.length).1 = Yi l.toArray (od l k) (EL P l sp e0 L0 full val' k).1 := (Jdb b1).trans (Jdb a1)
  have hwk : Yi l.toArray (od l k) (EL P l sp e0 L0 (Xn listed) val k).1 = Yi l.toArray (od l k) (EL P l sp e0 L0 full val' k).1 := Jdb a1
  have next : ∀ (v : Value) (a' : Act) (w' : World), (if Yi l.toArray (od l k) (EL P l sp e0 L0 full val' k).1 = true then (sd sp k).V P (od l k) (EL P l sp e0 L0 full val' k).1 (Jb0 (EL P l sp e0 L0 full val' k).2) v else v = undef) →
    Sim n a' (Jcu (EL P l sp e0 L0 (Xn listed) val l.length).1 (od l k).dst v) → Fr cx w' →
    Sat cx w' (if Yi l.toArray (od l k) (EL P l sp e0 L0 full val' k).1 = true then Wq (EL P l sp e0 L0 (Xn listed) val l.length).2 ((sd sp k).T (EL P l sp e0 L0 full val' k).1 (Jb0 (EL P l sp e0 L0 full val' k).2) v) else (EL P l sp e0 L0 (Xn listed) val l.length).2) →
    wpAny P .any l.toArray (lift n Q) fuel (listed.setIfInBounds k true) a' w' := by
   intro v a' w' hvv hs' hF' hS'
   have hstep := EL_step (P := P) (e0 := e0) (L0 := L0) ok hSc hSk v (val := val) l.length (by omega) (Nat.le_refl _)
   have hT : (sd sp k).T (EL P l sp e0 L0 (Xn listed) val k).1 (Jb0 (EL P l sp e0 L0 (Xn listed) val k).2) v = (sd sp k).T (EL P l sp e0 L0 full val' k).1 (Jb0 (EL P l sp e0 L0 full val' k).2) v :=
    T_loc _ (fun t ht => a1 t (ok.rs k t hkl ht)) (fun i hi => a2 i (.inl hi)) v
   refine ih (listed.setIfInBounds k true) a' w' (Jd5 val k v) (by simpa using hsz) (by rw [hSn]; exact hScn) ?_ (by rw [hSn]; exact hcnt) ?_ hF' ?_
   ·rw [hSn]
    refine cons_step ok hSc hkl hSk hc ?_
    rw [hwk]
    split
    ·rename_i hw
     rw [if_pos hw] at hvv
     rw [V_locL (L' := (EL P l sp e0 L0 full val' k).2) (sd sp k) hsel (ops := l.toArray) a1 (fun t ht => a1 t (ok.rs k t hkl ht)) (fun i hi => a2 i (.inl hi))]
     exact hvv
    ·rename_i hw
     rw [if_neg hw] at hvv
     exact hvv
   ·rw [hSn, hstep]; exact hs'
   ·rw [hSn, hstep]
    simp only
    rw [hwk, hT]
    exact hS'
  unfold wpOp
  rw [ho]
  simp only
  rw [Jel hs, hwa]
  cases h0 with
  | pass hw h3 =>
   rw [hw]
   simp only [Bool.false_eq_true, if_false]
   refine next undef _ w (by rw [if_neg (by rw [hw]; simp)]) ?_ hF (by rw [if_neg (by rw [hw]; simp)]; exact hS)
   cases hd : (od l k).dst with
   | none => exact hs
   | some d => exact hs.put (ok.dst k d hkl hd) undef
  | take hw hi hl h3 =>
   rw [hw, if_pos rfl]
   refine .inl ?_
   have hr := hl.out w _ hF hS (by rw [Jf2, Jf2]) (fun i hi => (b2 i hi).trans (a2 i hi))
   have hev : execOp (ev (EL P l sp e0 L0 full val' k).1) (od l k) = execOp (ev (EL P l sp e0 L0 (Xn listed) val l.length).1) (od l k) :=
    ev_loc hsel (ops := l.toArray) (fun t ht => ((b1 t ht).trans (a1 t ht)).symm)
   unfold RunsTo at hr
   rw [hev] at hr
   unfold Oper.wp
   rw [hs.ev]
   have put : ∀ v : Value, Sim n (a.put (od l k).dst v) (Jcu (EL P l sp e0 L0 (Xn listed) val l.length).1 (od l k).dst v) := by
    intro v
    cases hd : (od l k).dst with
    | none => exact hs
    | some d => exact hs.put (ok.dst k d hkl hd) v
   have go : ∀ v w', (sd sp k).V P (od l k) (EL P l sp e0 L0 full val' k).1 (Jb0 (EL P l sp e0 L0 full val' k).2) v ∧ Fr cx w' ∧ Sat cx w' (Wq (EL P l sp e0 L0 (Xn listed) val l.length).2 ((sd sp k).T (EL P l sp e0 L0 full val' k).1 (Jb0 (EL P l sp e0 L0 full val' k).2) v)) →
     wpAny P .any l.toArray (lift n Q) fuel (listed.setIfInBounds k true) (a.put (od l k).dst v) w' :=
    fun v w' ⟨g1, g2, g3⟩ => next v _ w' (by rw [if_pos hw]; exact g1) (put v) g2 (by rw [if_pos hw]; exact g3)
   generalize (execOp (ev (EL P l sp e0 L0 (Xn listed) val l.length).1) (od l k)).run P w = r at *
   cases r with
   | halt x w' => exact hr.elim
   | ok nx w' =>
    cases nx with
    | value v => exact go v w' hr
    | skip => exact go undef w' hr
    | enter f args =>
     show Calls P f args w' _
     refine Calls.mono hr ?_
     rintro en w'' ⟨v, rfl, hk'⟩
     exact go v w'' hk'
    | _ => exact hr.elim
theorem EL_none (S : Nat → Bool) (h : ∀ k, S k = false) (val : Nat → Value) : ∀ k, EL P l sp e0 L0 S val k = (e0, L0) := by
 intro k
 induction k with
 | zero => rfl
 | succ k ih => simp only [EL, h k]; exact ih
end sound
def empC : Chunk := ⟨fun S _ => ∀ b, ¬ S b, fun _ _ _ _ h => h⟩
theorem Sat.emp {cx : Cx} {w : World} {L : List Chunk} (h : Sat cx w L) (hF : Fr cx w) : Sat cx w (L ++ [empC]) :=
 h.snoc hF (Grow.refl w) (S := fun _ => False) (fun _ h => h) (fun _ h => h.elim)
theorem Sat.pad {cx : Cx} {w : World} (hF : Fr cx w) : ∀ (k : Nat) {L : List Chunk}, Sat cx w L → Sat cx w (L ++ List.replicate k empC)
 | 0, L, h => by simpa using h
 | k + 1, L, h => by
  have := Sat.pad hF k (h.emp hF)
  rwa [List.append_assoc, List.singleton_append, ← List.replicate_succ] at this
theorem Qk {P : Program} {n : Nat} {cx : Cx} {Q : Jbe} {e : X4} {L : List Chunk} {id : Nat} {l : List Oper} (sp : List Kd) (k : Nat) (hm : P.follows .mixedOrders = true)
  (h : Sq P cx l.toArray (fun e L => At cx (Q .normal) e L) l sp e (L ++ List.replicate k empC)) (hB : checkD n l sp = true) : At cx (WC P n (.region id l.toArray true) Q) e L :=
 ⟨fun w hF hS => ⟨fun a ha => by
  have ok := ok_of hB
  have hno : ∀ i, Xn (Array.replicate l.toArray.size false) i = false := by
   intro i
   simp only [Xn, Array.getD_eq_getD_getElem?, Array.getElem?_replicate]
   split <;> rfl
  refine wp_region_any hm (any_of ok h l.toArray.size (Array.replicate l.toArray.size false) a _ (fun _ => undef) (by simp) (fun k _ hk => by rw [hno k] at hk; cases hk) (fun j _ hj => by rw [hno j] at hj; cases hj) ?_ ?_ ⟨hF.os, hF.tape, hF.output, hF.size, hF.block⟩ ?_)
  ·exact Nat.le_trans (List.length_filter_le _ _) (by simp)
  ·rw [EL_none _ hno]; exact ha
  ·rw [EL_none _ hno]
   have hg : Grow w { w with drawn := w.drawn + 1 } := ⟨rfl, rfl, rfl, Nat.le_refl _, fun _ _ => rfl⟩
   exact (hS.pad hF k).grow hg⟩⟩
end Go.Vc

namespace Go.Vc
open Go
def Jgb (v : Value) (cs : List Value) (T : TypeId) : Chunk :=
 match v with
 | .pointer (some a) => Jf a.block cs T
 | .slice (some a) _ _ => Jf a.block cs T
 | _ => empC
def isPtr (v : Value) : Prop := ∃ b, v = .pointer (some ⟨b, 0, none⟩)
def Kd.nw (i : Nat) (cs : List Value) (T : TypeId) : Kd := .g [] [] [i] (fun _ _ v => isPtr v) (fun _ _ v => [Jgb v cs T])
def Kd.ns (i : Nat) (cs : List Value) (T m : Nat) : Kd := .g [] [] [i] (fun _ _ v => ∃ b, v = .slice (some ⟨b, 0, none⟩) m m) (fun _ _ v => [Jgb v cs T])
def Kd.st (a i : Nat) (cs : List Value) (T : TypeId) : Kd := .g [a] [i] [i] (fun _ _ v => v = undef) (fun vs _ _ => [Jgb (vs.headD undef) cs T])
section rules
variable {P : Program} {n : Nat} {cx : Cx} {Q : Jbe} {e : X4} {L : List Chunk} {ops : Array Oper} {F : X4 → List Chunk → Prop} {rest : List Oper} {ss : List Kd}
theorem Jdh {o : Oper} {s : Kd} {d : Nat} (hw : Yi ops o e = false) (hd : o.dst = some d) (k : Sq P cx ops F rest ss (upd e d undef) L) : Sq P cx ops F (o :: rest) (s :: ss) e L :=
 .pass hw (by rw [hd]; exact k)
theorem Qv {o : Oper} {d : Nat} {v : Value} (hw : Yi ops o e = true) (hd : o.dst = some d) (hr : ∀ w, (execOp (ev e) o).run P w = .ok (.value v) w)
  (k : Sq P cx ops F rest ss (upd e d v) L) : Sq P cx ops F (o :: rest) (.p :: ss) e L := by
 refine .take hw ⟨v, hr⟩ ⟨fun w L' hF hS _ _ => ?_⟩ fun v' hv' => ?_
 ·unfold RunsTo
  rw [hr]
  exact ⟨hr, hF, hS⟩
 ·have h1 := hv' default
  rw [hr] at h1
  have : v = v' := by simpa using h1
  subst this
  rw [hd]
  exact k
theorem d_det {o : Oper} {d : Nat} {v : Value} {rds : List Nat} (hw : Yi ops o e = true) (hd : o.dst = some d)
  (h : ∀ w L', Fr cx w → Sat cx w L' → (∀ i ∈ rds, L'[i]? = L[i]?) → RunsTo P (ev e) o w fun v' w' => v' = v ∧ Grow w w')
  (k : Sq P cx ops F rest ss (upd e d v) L) : Sq P cx ops F (o :: rest) (.d rds v :: ss) e L := by
 refine .take hw ⟨v, rfl⟩ ⟨fun w L' hF hS _ hi => ?_⟩ fun v' hv' => ?_
 ·refine (h w L' hF hS fun i hm => hi i (.inl hm)).mono fun v' w' ⟨h1, h2⟩ => ?_
  exact ⟨h1, hF.grow h2, hS.grow h2⟩
 ·have : v' = v := hv'
  subst this
  rw [hd]
  exact k
variable {d : Nat} {ty : TypeId} {pos : String} {af : Array Edge} {g : Option (Nat × Bool)}
theorem d_load1 {i : Nat} {T T0 b o : Nat} {A : Operand} {cs : List Value} {v : Value} (hA : ∀ w, (isAgg T).run P w = .ok false w)
  (hw : Yi ops ⟨some d, .load T A, ty, pos, af, g⟩ e = true) (hp : ev e A = .pointer (some ⟨b, o, none⟩)) (hL : L[i]? = some (Jf b cs T0)) (hv : rg cs o = some v)
  (k : Sq P cx ops F rest ss (upd e d v) L) : Sq P cx ops F (⟨some d, .load T A, ty, pos, af, g⟩ :: rest) (.d [i] v :: ss) e L :=
 d_det hw rfl (fun w L' hF hS hi => by
  have hc := Jc3 (o := o) (Ql hS ((hi i (by simp)).trans hL))
  rw [← rg_eq, hv] at hc
  unfold RunsTo
  have : (execOp (ev e) ⟨some d, .load T A, ty, pos, af, g⟩).run P w = .ok (.value v) w := by
   simp [execOp, Instr.loadAt, Instr.sureAddr, hp, Jbj hA hc]
  rw [this]
  exact ⟨rfl, Grow.refl w⟩) k
theorem Jc1 {i : Nat} {T T0 b o sz : Nat} {A : Operand} {cs vs : List Value} (hA : ∀ w, (isAgg T).run P w = .ok true w) (hs : ∀ w, (sizeOf T).run P w = .ok sz w)
  (hw : Yi ops ⟨some d, .load T A, ty, pos, af, g⟩ e = true) (hp : ev e A = .pointer (some ⟨b, o, none⟩)) (hL : L[i]? = some (Jf b cs T0)) (hv : rd cs o sz = some vs)
  (k : Sq P cx ops F rest ss (upd e d (.agg vs.toArray)) L) : Sq P cx ops F (⟨some d, .load T A, ty, pos, af, g⟩ :: rest) (.d [i] (.agg vs.toArray) :: ss) e L :=
 d_det hw rfl (fun w L' hF hS hi => by
  obtain ⟨h1, h2⟩ := Jht hv
  have hr := W4 (P := P) (w := w) (b := b) (o := o) hA hs h1 (fun j v hj => by rw [Jc3 (Ql hS ((hi i (by simp)).trans hL))]; exact h2 j v hj)
  unfold RunsTo
  have : (execOp (ev e) ⟨some d, .load T A, ty, pos, af, g⟩).run P w = .ok (.value (.agg vs.toArray)) w := by
   simp [execOp, Instr.loadAt, Instr.sureAddr, hp, hr]
  rw [this]
  exact ⟨rfl, Grow.refl w⟩) k
theorem Ja9 {f : FuncId} {A : Array Operand} {tys : Array TypeId} {args : List Value} {v : Value} (h : Ret P f args v) (hc : ∀ args w, (callFunc f args).run P w = .ok (.enter f args) w)
  (hw : Yi ops ⟨some d, .call ⟨.value (.func f), A, tys⟩, ty, pos, af, g⟩ e = true) (ha : A.toList.map (ev e) = args)
  (k : Sq P cx ops F rest ss (upd e d v) L) : Sq P cx ops F (⟨some d, .call ⟨.value (.func f), A, tys⟩, ty, pos, af, g⟩ :: rest) (.d [] v :: ss) e L :=
 d_det hw rfl (fun w L' _ _ _ => by
  unfold RunsTo
  rw [Jdc hc ha]
  exact h w) k
theorem d_new {o : Oper} {i : Nat} {T : TypeId} {cs : List Value} (hw : Yi ops o e = true) (hd : o.dst = some d)
  (hr : ∀ w, (execOp (ev e) o).run P w = .ok (.value (.pointer (some ⟨w.heap.size, 0, none⟩))) (w.alloc (.cells cs.toArray T))) (hL : L[i]? = some empC)
  (k : ∀ b, Sq P cx ops F rest ss (upd e d (.pointer (some ⟨b, 0, none⟩))) (L.set i (Jf b cs T))) : Sq P cx ops F (o :: rest) (.nw i cs T :: ss) e L := by
 refine .take hw ⟨.pointer (some ⟨0, 0, none⟩), 0, rfl⟩ ⟨fun w L' hF hS _ hi => ?_⟩ fun v' hv' => ?_
 ·unfold RunsTo
  rw [hr]
  refine ⟨⟨_, rfl⟩, hF.grow (Jbo w _), ?_⟩
  refine hS.set hF ((hi i (.inr (by simp [Kd.nw, Kd.wrs]))).trans hL) (by simp) fun S _ hSo => ⟨fun x => x = w.heap.size, ⟨fun _ => Iff.rfl, heap_alloc_new w _⟩, fun b hb => ?_, fun b hb _ => (by first | exact heap_alloc_old w _ b hb | exact heap_alloc_old w _ hb)⟩
  subst hb
  exact ⟨by simp, .inr (Nat.le_refl _)⟩
 ·obtain ⟨b, rfl⟩ : ∃ b, v' = .pointer (some ⟨b, 0, none⟩) := hv'
  rw [hd]
  exact k b
theorem d_newS {o : Oper} {i m : Nat} {T : TypeId} {cs : List Value} (hw : Yi ops o e = true) (hd : o.dst = some d)
  (hr : ∀ w, (execOp (ev e) o).run P w = .ok (.value (.slice (some ⟨w.heap.size, 0, none⟩) m m)) (w.alloc (.cells cs.toArray T))) (hL : L[i]? = some empC)
  (k : ∀ b, Sq P cx ops F rest ss (upd e d (.slice (some ⟨b, 0, none⟩) m m)) (L.set i (Jf b cs T))) : Sq P cx ops F (o :: rest) (.ns i cs T m :: ss) e L := by
 refine .take hw ⟨.slice (some ⟨0, 0, none⟩) m m, 0, rfl⟩ ⟨fun w L' hF hS _ hi => ?_⟩ fun v' hv' => ?_
 ·unfold RunsTo
  rw [hr]
  refine ⟨⟨_, rfl⟩, hF.grow (Jbo w _), ?_⟩
  refine hS.set hF ((hi i (.inr (by simp [Kd.ns, Kd.wrs]))).trans hL) (by simp) fun S _ hSo => ⟨fun x => x = w.heap.size, ⟨fun _ => Iff.rfl, heap_alloc_new w _⟩, fun b hb => ?_, fun b hb _ => (by first | exact heap_alloc_old w _ b hb | exact heap_alloc_old w _ hb)⟩
  subst hb
  exact ⟨by simp, .inr (Nat.le_refl _)⟩
 ·obtain ⟨b, rfl⟩ : ∃ b, v' = .slice (some ⟨b, 0, none⟩) m m := hv'
  rw [hd]
  exact k b
theorem run_alloc {d : Option Nat} {T : TypeId} {z : Value} {cs : List Value} (hz : ∀ w, (zeroValue T).run P w = .ok z w) (hc : z.cells.toList = cs) (w : World) :
  (execOp (ev e) ⟨d, .alloc T, ty, pos, af, g⟩).run P w = .ok (.value (.pointer (some ⟨w.heap.size, 0, none⟩))) (w.alloc (.cells cs.toArray T)) := by
 subst hc
 simp [execOp, Instr.alloc, hz, Jgi]
theorem run_store {T T0 b o sz : Nat} {A X : Operand} {x : Value} {cs cs' vs : List Value} {w : World} (hs : ∀ w, (sizeOf T).run P w = .ok sz w) (hp : ev e A = .pointer (some ⟨b, o, none⟩)) (hx : ev e X = x) (hc : x.cells.toList = vs) (hsz : vs.length = sz)
  (hpos : Nat.blt 0 sz = true) (hone : vs.all Value.oneCell' = true) (hv : wr cs o vs = some cs') (hb : w.heap[b]? = some (.cells cs.toArray T0 (0, 0))) :
  (execOp (ev e) ⟨none, .store T A X, ty, pos, af, g⟩).run P w = .ok .skip (w.setRow b cs'.toArray) := by
 have hpos' : 0 < vs.length := by rw [hsz]; simpa using hpos
 obtain ⟨h1, h2⟩ := wr_eq hv hpos'
 have hst := run_storeCells_at P b o T0 vs 0 cs.toArray w hb (by simpa using h1) (by simpa using hone)
 have hsz' : x.cells.size = sz := by rw [← hsz, ← hc]; simp
 simp only [Nat.add_zero, List.append_assoc] at hst
 simp only [execOp, Instr.storeAt, Instr.sureAddr, storeVar, hp, hx, Sem.run_bind, Sem.run_pure, Result.andThen_ok, hs, hsz', ne_eq, not_true_eq_false, if_false, hc, hst]
 rw [h2]; simp
theorem Jfy {i : Nat} {a T T0 b o sz : Nat} {X : Operand} {x : Value} {cs cs' vs : List Value} (hs : ∀ w, (sizeOf T).run P w = .ok sz w)
  (hw : Yi ops ⟨none, .store T (.tmp a) X, ty, pos, af, g⟩ e = true) (hp : e a = .pointer (some ⟨b, o, none⟩)) (hx : ev e X = x) (hc : x.cells.toList = vs) (hsz : vs.length = sz) (hpos : Nat.blt 0 sz = true)
  (hone : vs.all Value.oneCell' = true) (hL : L[i]? = some (Jf b cs T0)) (hv : wr cs o vs = some cs')
  (k : Sq P cx ops F rest ss e (L.set i (Jf b cs' T0))) : Sq P cx ops F (⟨none, .store T (.tmp a) X, ty, pos, af, g⟩ :: rest) (.st a i cs' T0 :: ss) e L := by
 have hbox : Jgb (([a].map e).headD undef) cs' T0 = Jf b cs' T0 := by
  have : ([a].map e).headD undef = e a := rfl
  rw [this, hp]; rfl
 refine .take hw ⟨undef, rfl⟩ ⟨fun w L' hF hS _ hi => ?_⟩ fun v' hv' => ?_
 ·have hL' := (hi i (.inl (by simp [Kd.st, Kd.rds]))).trans hL
  have hb := Ql hS hL'
  unfold RunsTo
  rw [run_store hs (by exact hp) hx hc hsz hpos hone hv hb]
  have hset := setRow_heap w b cs.toArray cs'.toArray T0 (0, 0) hb
  refine ⟨rfl, ⟨hF.os, hF.tape, hF.output, by simpa using hF.size, fun c hcn => ?_⟩, ?_⟩
  ·rw [setRow_other w b c _ (fun e => ?_)]
   ·exact hF.block c hcn
   ·obtain ⟨fp, f1, f2, _⟩ := hS.out
    have := (f2 i b ((f1 i _ hL').1 b |>.2 rfl)).2.2
    subst e
    exact hcn this
  ·show Sat cx _ (L'.set i (Jgb (([a].map e).headD undef) cs' T0))
   rw [hbox]
   exact hS.set hF hL' (by simp) fun S hSp hSo => ⟨S, ⟨hSp.1, hset⟩, fun c hc => ⟨by simpa using (hSo c hc).1, .inl hc⟩, fun c _ hcS => setRow_other w b c _ (fun e => hcS ((hSp.1 c).2 e))⟩
 ·show Sq P cx ops F rest ss e (L.set i (Jgb (([a].map e).headD undef) cs' T0))
  rw [hbox]
  exact k
theorem Xr (h : F e L) : Sq P cx ops F [] [] e L := .nil h
theorem Wu {os : List Oper} {b : Bool} (ht : b = true → Sq P cx ops F os ss (upd e d (.bool true)) L) (hf : b = false → Sq P cx ops F os ss (upd e d (.bool false)) L) : Sq P cx ops F os ss (upd e d (.bool b)) L := by
 cases b
 ·exact hf rfl
 ·exact ht rfl
end rules
end Go.Vc

namespace Go.Vc
open Go
section rules
variable {P : Program} {n : Nat} {cx : Cx} {Q : Jbe} {e : X4} {L : List Chunk} {ops : Array Oper} {rest : List Oper} {F : X4 → List Chunk → Prop} {ss : List Kd}
variable {ty : TypeId} {pos : String} {af : Array Edge} {g : Option (Nat × Bool)}
structure WR (P : Program) (n : Nat) (m : Nat) (c : Code) (Q : Jbe) (e : X4) (w : World) : Prop where
 out : ∀ a, Sim n a e → Code.rounds P c (lift n Q) m a w
def Keeps (M : List Nat) (e e' : X4) : Prop := ∀ t, (M.any fun x => Nat.beq x t) = false → e' t = e t
theorem Keeps.refl (M : List Nat) (e : X4) : Keeps M e e := fun _ _ => rfl
theorem Keeps.upd {M : List Nat} {e e' : X4} {d : Nat} {v : Value} (h : Keeps M e e') (hd : (M.any fun x => Nat.beq x d) = true) : Keeps M e (upd e' d v) := fun t ht => by
 rw [upd_ne _ _ _ _ (fun hh => by rw [hh, hd] at ht; cases ht)]
 exact h t ht
structure RoundK {σ : Type} (cx : Cx) (M : List Nat) (e0 : X4) (st : σ → List (Nat × Value)) (hp : σ → List Chunk) (I : σ → Prop) (m : Nat) (μ : σ → Nat) (e : X4) (w : World) : Prop where
 out : ∃ s, Jhb e (st s) ∧ Keeps M e0 e ∧ Fr cx w ∧ Sat cx w (hp s) ∧ I s ∧ μ s < m
def Row (w : World) (a : Option Addr) (sz : Nat) (xs : List (List Value)) : Prop :=
 xs = [] ∨ ∃ b off, a = some ⟨b, off, none⟩ ∧ ∀ (i : Nat) (x : List Value), xs[i]? = some x → x.length = sz ∧ ∀ (j : Nat) (v : Value), x[j]? = some v → w.cell? ⟨b, off + i * sz + j, none⟩ = some v
theorem Row.some {w : World} {a : Option Addr} {sz : Nat} {xs : List (List Value)} (h : Row w a sz xs) {i : Nat} (hi : i < xs.length) : ∃ b off, a = some ⟨b, off, none⟩ := by
 rcases h with h | ⟨b, off, ha, _⟩
 ·subst h; simp at hi
 ·exact ⟨b, off, ha⟩
theorem Jc2 {sz : Nat} : ∀ (xs : List (List Value)) (i : Nat) (x : List Value), (xs.all fun x => Nat.beq x.length sz) = true → xs[i]? = some x → ∀ (j : Nat) (v : Value), x[j]? = some v → xs.flatten[i * sz + j]? = some v
 | [], i, x, _, hx, _, _, _ => by simp at hx
 | y :: ys, i, x, hl, hx, j, v, hv => by
  simp only [List.all_cons, Bool.and_eq_true] at hl
  have hy : y.length = sz := by simpa using hl.1
  have hj : j < x.length := by
   rcases Nat.lt_or_ge j x.length with h | h
   ·exact h
   ·simp [List.getElem?_eq_none h] at hv
  cases i with
  | zero =>
   simp at hx; subst hx
   simp only [List.flatten_cons, Nat.zero_mul, Nat.zero_add]
   rw [List.getElem?_append_left hj]
   exact hv
  | succ i =>
   simp at hx
   have := Jc2 ys i x hl.2 hx j v hv
   simp only [List.flatten_cons]
   rw [List.getElem?_append_right (by rw [Nat.succ_mul]; omega)]
   rw [show (i + 1) * sz + j - y.length = i * sz + j from by rw [Nat.succ_mul]; omega]
   exact this
theorem Wy {w : World} {i b : Nat} {cs : List Value} {T : TypeId} {sz : Nat} {xs : List (List Value)} (hS : Sat cx w L) (hL : L[i]? = some (Jf b cs T)) (hcs : xs.flatten = cs) (hlen : (xs.all fun x => Nat.beq x.length sz) = true) : Row w (some ⟨b, 0, none⟩) sz xs := by
 refine .inr ⟨b, 0, rfl, fun i x hx => ⟨?_, fun j v hv => ?_⟩⟩
 ·have := List.all_eq_true.1 hlen x (List.mem_of_getElem? hx)
  simpa using this
 ·rw [Jc3 (Ql hS hL), ← hcs, Nat.zero_add]
  exact Jc2 xs i x hlen hx j v hv
theorem Row.at {w : World} {a : Option Addr} {sz : Nat} {α : Type} {f : α → List Value} {xs : List α} (h : Row w a sz (xs.map f)) {k : Nat} (hk : k < xs.length) : ∃ b off, a = Option.some ⟨b, off, none⟩ :=
 h.some (i := k) (by simpa using hk)
def Jbt (a : Option Addr) (k : Nat) : Value :=
 match a with
 | some x => .pointer (some ⟨x.block, x.off + k, none⟩)
 | none => undef
theorem Jdl {d : Option Nat} {X : Operand} {a : Option Addr} {m c : Nat} {t u : TypeId} (hu : P.underlying t = some (.slice u)) (hx : ev e X = .slice a m c) (w : World) :
  (execOp (ev e) ⟨d, .call ⟨.builtin .len, #[X], #[t]⟩, ty, pos, af, g⟩).run P w = .ok (.value (.int .i64 m)) w := by
 simp [execOp, resolve, invoke, builtin, hx, Builtin.len_, run_underlying hu, goInt]
theorem r_lenS {d : Option Nat} {X : Operand} {s : ByteArray} {t : TypeId} (hu : P.underlying t = some .string) (hx : ev e X = .string s) (w : World) :
  (execOp (ev e) ⟨d, .call ⟨.builtin .len, #[X], #[t]⟩, ty, pos, af, g⟩).run P w = .ok (.value (.int .i64 s.size)) w := by
 simp [execOp, resolve, invoke, builtin, hx, Builtin.len_, run_underlying hu, goInt]
theorem r_index {d : Option Nat} {X I : Operand} {a : Option Addr} {m c : Nat} {t u sz : Nat} {k : IntKind} {i : Int} (hu : P.underlying t = some (.slice u)) (hs : ∀ w, (sizeOf u).run P w = .ok sz w)
  (hx : ev e X = .slice a m c) (hi : ev e I = .int k i) (ha : ∃ b off, a = some ⟨b, off, none⟩) (h0 : 0 ≤ i) (h1 : i < m) (w : World) :
  (execOp (ev e) ⟨d, .indexAddr t X I, ty, pos, af, g⟩).run P w = .ok (.value (Jbt a (i.toNat * sz))) w := by
 obtain ⟨b, off, rfl⟩ := ha
 simp [execOp, Instr.indexAt, hx, hi, asIntOf, run_underlying hu, h0, h1, hs, Jbt, Addr.add_lit]
theorem Jd0 {d : Option Nat} {T fld k fo ft fsz bo : Nat} {a : Option Addr} {nm tg pk : String} {em : Bool} {X : Operand} {fs : Array Field} (hu : ∀ w, (underlying T).run P w = .ok (.struct fs) w)
  (hf : fs[fld]? = some ⟨nm, ft, fo, em, tg, pk, bo⟩) (hs : ∀ w, (sizeOf ft).run P w = .ok fsz w) (hsz : Nat.blt 0 fsz = true) (hp : ev e X = Jbt a k) (ha : ∃ b off, a = some ⟨b, off, none⟩) (w : World) :
  (execOp (ev e) ⟨d, .fieldAddr T X fld, ty, pos, af, g⟩).run P w = .ok (.value (Jbt a (k + fo))) w := by
 obtain ⟨b, off, rfl⟩ := ha
 rw [J2 hu hf hs hsz hp w]
 simp [Jbt, Nat.add_assoc]
theorem run_loadP1 {T k : Nat} {d : Option Nat} {a : Option Addr} {A : Operand} {sz i j : Nat} {xs : List (List Value)} {x : List Value} {v : Value} {w : World} (hA : ∀ w, (isAgg T).run P w = .ok false w)
  (hp : ev e A = Jbt a k) (hk : k = i * sz + j) (hr : Row w a sz xs) (hx : xs[i]? = some x) (hv : rg x j = some v) :
  (execOp (ev e) ⟨d, .load T A, ty, pos, af, g⟩).run P w = .ok (.value v) w := by
 rcases hr with rfl | ⟨b, off, rfl, h⟩
 ·simp at hx
 ·have hc := (h i x hx).2 j v (by rw [← rg_eq]; exact hv)
  subst hk
  have hp' : ev e A = .pointer (some ⟨b, off + i * sz + j, none⟩) := by rw [hp]; simp [Jbt, Nat.add_assoc]
  simp [execOp, Instr.loadAt, Instr.sureAddr, hp', Jbj hA hc]
theorem run_loadPN {T k m : Nat} {d : Option Nat} {a : Option Addr} {A : Operand} {sz i j : Nat} {xs : List (List Value)} {x vs : List Value} {w : World} (hA : ∀ w, (isAgg T).run P w = .ok true w) (hs : ∀ w, (sizeOf T).run P w = .ok m w)
  (hp : ev e A = Jbt a k) (hk : k = i * sz + j) (hr : Row w a sz xs) (hx : xs[i]? = some x) (hv : rd x j m = some vs) :
  (execOp (ev e) ⟨d, .load T A, ty, pos, af, g⟩).run P w = .ok (.value (.agg vs.toArray)) w := by
 rcases hr with rfl | ⟨b, off, rfl, h⟩
 ·simp at hx
 ·obtain ⟨h1, h2⟩ := Jht hv
  subst hk
  have hp' : ev e A = .pointer (some ⟨b, off + i * sz + j, none⟩) := by rw [hp]; simp [Jbt, Nat.add_assoc]
  have := W4 (P := P) (w := w) (b := b) (o := off + i * sz + j) hA hs h1 (fun q v hq => by
   rw [Nat.add_assoc]; exact (h i x hx).2 (j + q) v (h2 q v hq))
  simp [execOp, Instr.loadAt, Instr.sureAddr, hp', this]
theorem Xs {o : Oper} {d : Nat} {v : Value} (hr : ∀ w, Fr cx w → Sat cx w L → (execOp (ev e) o).run P w = .ok (.value v) w) (hw : Yi ops o e = true) (hd : o.dst = some d) (hn : Nat.blt d n = true)
  (k : At cx (WL P n ops Q rest) (upd e d v) L) : At cx (WL P n ops Q (o :: rest)) e L :=
 Jdi hw hd hn fun w hF hS => ⟨v, w, hr w hF hS, k.out w hF hS⟩
theorem W2 {o : Oper} {d : Nat} {v : Value} (hr : ∀ w, Fr cx w → (execOp (ev e) o).run P w = .ok (.value v) w) (hw : Yi ops o e = true) (hd : o.dst = some d)
  (k : Sq P cx ops F rest ss (upd e d v) L) : Sq P cx ops F (o :: rest) (.d [] v :: ss) e L :=
 d_det hw hd (fun w _ hF _ _ => by unfold RunsTo; rw [hr w hF]; exact ⟨rfl, Grow.refl w⟩) k
theorem Qb {d : Nat} {f : FuncId} {A : Array Operand} {tys : Array TypeId} {args : List Value} {v : Value} (h : ∀ w, Fr cx w → Sat cx w L → Does P f args.toArray w fun v' w' => v' = v ∧ Grow w w') (hc : ∀ args w, (callFunc f args).run P w = .ok (.enter f args) w)
  (hw : Yi ops ⟨some d, .call ⟨.value (.func f), A, tys⟩, ty, pos, af, g⟩ e = true) (hn : Nat.blt d n = true) (ha : A.toList.map (ev e) = args)
  (k : At cx (WL P n ops Q rest) (upd e d v) L) : At cx (WL P n ops Q (⟨some d, .call ⟨.value (.func f), A, tys⟩, ty, pos, af, g⟩ :: rest)) e L :=
 l_calls hw rfl hn (Jdc hc ha) fun w hF hS => (h w hF hS).mono fun v' w' ⟨hv, hg⟩ => by
  subst hv
  exact k.out w' (hF.grow hg) (hS.grow hg)
theorem Jar {d : Nat} {f : FuncId} {A : Array Operand} {tys : Array TypeId} {args : List Value} {v : Value} {rds : List Nat} (h : ∀ w L', Fr cx w → Sat cx w L' → (∀ i ∈ rds, L'[i]? = L[i]?) → Does P f args.toArray w fun v' w' => v' = v ∧ Grow w w') (hc : ∀ args w, (callFunc f args).run P w = .ok (.enter f args) w)
  (hw : Yi ops ⟨some d, .call ⟨.value (.func f), A, tys⟩, ty, pos, af, g⟩ e = true) (ha : A.toList.map (ev e) = args)
  (k : Sq P cx ops F rest ss (upd e d v) L) : Sq P cx ops F (⟨some d, .call ⟨.value (.func f), A, tys⟩, ty, pos, af, g⟩ :: rest) (.d rds v :: ss) e L :=
 d_det hw rfl (fun w L' hF hS hi => by
  unfold RunsTo
  rw [Jdc hc ha]
  exact h w L' hF hS hi) k
theorem r_ext {d : Option Nat} {f : FuncId} {A : Array Operand} {tys : Array TypeId} {args : List Value} {v : Value} (hc : ∀ w, (callFunc f args.toArray).run P w = .ok (.value v) w) (ha : A.toList.map (ev e) = args) (w : World) :
  (execOp (ev e) ⟨d, .call ⟨.value (.func f), A, tys⟩, ty, pos, af, g⟩).run P w = .ok (.value v) w := by
 subst ha
 have : (A.toList.map (ev e)).toArray = A.map (ev e) := by rw [← Array.toList_map, Array.toArray_toList]
 rw [this] at hc
 simp only [execOp, resolve, ev, Deferred.ofValue, Sem.run_bind, Sem.run_pure, Result.andThen_ok, invoke, hc, Array.append_empty, Array.empty_append]
theorem fold_set (off : Nat) : ∀ (vs : List Value) (j : Nat) (cs : Array Value), off + j + vs.length ≤ cs.size →
  ((vs.zipIdx j).foldl (fun cs (p : Value × Nat) => cs.setIfInBounds (off + p.2) p.1) cs).toList = cs.toList.take (off + j) ++ vs ++ cs.toList.drop (off + j + vs.length)
 | [], j, cs, _ => by simp
 | v :: vs, j, cs, h => by
  simp only [List.zipIdx_cons, List.foldl_cons]
  rw [fold_set off vs (j + 1) _ (by simp at h ⊢; omega)]
  have hlt : off + j < cs.size := by simp at h; omega
  simp only [Array.toList_setIfInBounds, List.length_cons]
  have e1 : (cs.toList.set (off + j) v).take (off + (j + 1)) = cs.toList.take (off + j) ++ [v] := by
   rw [show off + (j + 1) = (off + j) + 1 from by omega, List.take_add_one]
   rw [List.take_set_of_le (Nat.le_refl _)]
   simp [hlt]
  have e2 : (cs.toList.set (off + j) v).drop (off + (j + 1) + vs.length) = cs.toList.drop (off + j + (vs.length + 1)) := by
   rw [List.drop_set_of_lt (by omega)]
   congr 1; omega
  rw [e1, e2]
  simp
theorem fill_all (sz : Nat) : ∀ (vs : List Value) (i : Nat) (cs : Array Value), (∀ v ∈ vs, v.cells.size = sz) → cs.size = (i + vs.length) * sz →
  ∃ out : Array Value, Instr.fill (fun i => some (i * sz, sz)) cs ((vs.zipIdx i).map fun p => (p.2, p.1)) = some out ∧ out.toList = cs.toList.take (i * sz) ++ vs.flatMap fun v => v.cells.toList
 | [], i, cs, _, hsz => ⟨cs, rfl, by simp at hsz; simp [← hsz, List.take_of_length_le]⟩
 | v :: vs, i, cs, hv, hsz => by
  have h1 : v.cells.size = sz := hv v (by simp)
  have hle : i * sz + v.cells.size ≤ cs.size := by
   rw [h1, hsz, ← Nat.succ_mul]; exact Nat.mul_le_mul_right _ (by simp)
  have hf := fold_set (i * sz) v.cells.toList 0 cs (by simpa using hle)
  obtain ⟨out, ho1, ho2⟩ := fill_all sz vs (i + 1) (v.cells.zipIdx.foldl (fun cs (p : Value × Nat) => cs.setIfInBounds (i * sz + p.2) p.1) cs) (fun u hu => hv u (by simp [hu])) (by
   have : (v.cells.zipIdx.foldl (fun cs (p : Value × Nat) => cs.setIfInBounds (i * sz + p.2) p.1) cs).size = cs.size := by
    rw [← Array.foldl_toList, ← Array.length_toList, Array.toList_zipIdx, hf]
    simp
    omega
   rw [this, hsz]; simp; congr 1; omega)
  refine ⟨out, ?_, ?_⟩
  ·simp only [List.zipIdx_cons, List.map_cons, Instr.fill]
   rw [if_neg (by simp [h1]; omega)]
   exact ho1
  ·rw [ho2, ← Array.foldl_toList, Array.toList_zipIdx, hf]
   simp only [List.flatMap_cons]
   rw [show (i + 1) * sz = i * sz + v.cells.toList.length from by rw [Nat.succ_mul]; simp [h1]]
   simp only [Nat.add_zero]
   have hl : (cs.toList.take (i * sz) ++ v.cells.toList).length = i * sz + v.cells.toList.length := by simp; omega
   rw [List.take_left' hl, List.append_assoc]
theorem Jbx {d : Option Nat} {t u sz m : Nat} {parts : Array (Nat × Operand)} {z : Value} {vs : List Value} {cs : List Value} (hu : P.underlying t = some (.slice u)) (hs : ∀ w, (sizeOf u).run P w = .ok sz w) (hz : ∀ w, (zeroValue u).run P w = .ok z w)
  (hps : parts.toList.map (fun (i, x) => (i, ev e x)) = (vs.zipIdx 0).map fun p => (p.2, p.1)) (hm : vs.length = m) (hall : (vs.all fun v => Nat.beq v.cells.size sz) = true) (hb : Nat.ble (m * sz) 16777216 = true) (hcs : (vs.flatMap fun v => v.cells.toList) = cs) (w : World) :
  (execOp (ev e) ⟨d, .buildSlice t m parts, ty, pos, af, g⟩).run P w = .ok (.value (.slice (some ⟨w.heap.size, 0, none⟩) m m)) (w.alloc (.cells cs.toArray u)) := by
 have hps' : (parts.map fun (i, x) => (i, ev e x)).toList = (vs.zipIdx 0).map fun p => (p.2, p.1) := by rw [← hps, Array.toList_map]
 have hb' : m * sz ≤ 16777216 := by simpa using hb
 have hall' : ∀ v ∈ vs, v.cells.size = sz := fun v hv => by simpa using List.all_eq_true.1 hall v hv
 have key : ∀ cs0 : Array Value, cs0.size = m * sz → Instr.fill (fun i => some (i * sz, sz)) cs0 ((vs.zipIdx 0).map fun p => (p.2, p.1)) = some cs.toArray := by
  intro cs0 h0
  obtain ⟨out, h1, h2⟩ := fill_all sz vs 0 cs0 hall' (by rw [h0, Nat.zero_add, hm])
  rw [h1]
  congr 1
  apply Array.ext'
  rw [h2, ← hcs]; simp
 have h24 : ¬ m * sz > 2 ^ 24 := by omega
 by_cases h0 : m * sz = 0
 ·simp only [execOp, Instr.buildSlice, Sem.run_bind, run_underlying hu, Result.andThen_ok, hs, hps', h24, if_false]
  simp only [h0, if_true, Sem.run_pure, pure_bind]
  rw [key _ (by simp [h0])]
  simp [newRow, newObj, Sem.run]
 ·have hk := key ((Array.range (m * sz)).map (z.cells[· % z.cells.size]!)) (by simp)
  simp only [execOp, Instr.buildSlice, Sem.run_bind, run_underlying hu, Result.andThen_ok, hs, hps', h24, h0, if_false, hz, Sem.run_pure, hk]
  simp [newRow, newObj, Sem.run]
theorem Q5 {d : Nat} {t u sz m : Nat} {parts : Array (Nat × Operand)} {z : Value} {vs cs : List Value} (hu : P.underlying t = some (.slice u)) (hs : ∀ w, (sizeOf u).run P w = .ok sz w) (hz : ∀ w, (zeroValue u).run P w = .ok z w)
  (hw : Yi ops ⟨some d, .buildSlice t m parts, ty, pos, af, g⟩ e = true) (hn : Nat.blt d n = true)
  (hps : parts.toList.map (fun (i, x) => (i, ev e x)) = (vs.zipIdx 0).map fun p => (p.2, p.1)) (hm : vs.length = m) (hall : (vs.all fun v => Nat.beq v.cells.size sz) = true) (hb : Nat.ble (m * sz) 16777216 = true) (hcs : (vs.flatMap fun v => v.cells.toList) = cs)
  (k : ∀ b, At cx (WL P n ops Q rest) (upd e d (.slice (some ⟨b, 0, none⟩) m m)) (L ++ [Jf b cs u])) : At cx (WL P n ops Q (⟨some d, .buildSlice t m parts, ty, pos, af, g⟩ :: rest)) e L :=
 Jdi hw rfl hn fun w hF hS => ⟨.slice (some ⟨w.heap.size, 0, none⟩) m m, w.alloc (.cells cs.toArray u), Jbx hu hs hz hps hm hall hb hcs w, (k w.heap.size).out _ (hF.grow (Jbo w _)) (sat_new hF hS cs u)⟩
end rules
end Go.Vc

namespace Go.Vc
open Go
structure Turn (w w' : World) (S : Nat → Prop) (C : Chunk) : Prop where
 os : w'.os = w.os
 tape : w'.tape = w.tape
 output : w'.output = w.output
 size : w.heap.size ≤ w'.heap.size
 block : ∀ b, b < w.heap.size → ¬ S b → w'.heap[b]? = w.heap[b]?
 out : ∃ S' : Nat → Prop, C.P S' w' ∧ ∀ b, S' b → b < w'.heap.size ∧ (S b ∨ w.heap.size ≤ b)
abbrev Z0 : Nat → Prop := fun _ => False
structure Imp (C D : Chunk) : Prop where
 out : ∀ S w, C.P S w → D.P S w
theorem Imp.refl (C : Chunk) : Imp C C := ⟨fun _ _ h => h⟩
theorem Imp.of {C D : Chunk} (h : C = D) : Imp C D := h ▸ Imp.refl C
theorem Turn.grow {w w' : World} {C : Chunk} (h : Turn w w' Z0 C) : Grow w w' := ⟨h.os, h.tape, h.output, h.size, fun k hk => h.block k hk (fun x => x)⟩
theorem Y0 {σ : Type} {w0 : World} {S : Nat → Prop} {L : List Chunk} {v : Value} {G : σ → Value} {C : σ → Chunk} {i : Nat} {C0 : Chunk} (x : σ) (hL : L[i]? = some C0) (hv : v = G x) (hc : Imp C0 (C x)) :
  ∀ w, Fr ⟨w0, S⟩ w → Sat ⟨w0, S⟩ w L → ∃ x, v = G x ∧ Turn w0 w S (C x) := fun w hF hS => by
 refine ⟨x, hv, hF.os, hF.tape, hF.output, hF.size, fun b hb hn => hF.block b ?_, ?_⟩
 ·rintro (h | h)
  ·exact absurd h (by show ¬ w0.heap.size ≤ b; omega)
  ·exact hn h
 ·obtain ⟨fp, h1, h2, _⟩ := hS.out
  refine ⟨fp i, hc.out _ _ (h1 i C0 hL), fun b hb => ?_⟩
  obtain ⟨_, a2, a3⟩ := h2 i b hb
  exact ⟨a2, a3.symm⟩
theorem Sat.one {w : World} {S : Nat → Prop} {C : Chunk} (h : C.P S w) (hb : ∀ b, S b → b < w.heap.size) : Sat ⟨w, S⟩ w [C] :=
 ⟨fun i b => i = 0 ∧ S b, fun i c hc => by
  cases i with
  | zero => simp at hc; subst hc; simpa using h
  | succ i => simp at hc, fun i b ⟨hi, hs⟩ => ⟨by simp [hi], hb b hs, .inr hs⟩, fun i j b ⟨hi, _⟩ ⟨hj, _⟩ => by omega⟩
section rules
variable {P : Program} {n : Nat} {cx : Cx} {Q : Jbe} {e : X4} {L : List Chunk} {ops : Array Oper} {F : X4 → List Chunk → Prop} {rest : List Oper} {ss : List Kd}
variable {d : Nat} {ty : TypeId} {pos : String} {af : Array Edge} {g : Option (Nat × Bool)}
theorem c_know {K : X4 → World → Prop} {φ : Prop} (h : ∀ w, Fr cx w → Sat cx w L → φ) (k : φ → At cx K e L) : At cx K e L :=
 ⟨fun w hF hS => (k (h w hF hS)).out w hF hS⟩
theorem Fr.turn {w w' : World} {S : Nat → Prop} {C : Chunk} (hF : Fr cx w) (h : Turn w w' S C) (hS : ∀ b, S b → cx.own b) : Fr cx w' :=
 ⟨h.os.trans hF.os, h.tape.trans hF.tape, h.output.trans hF.output, Nat.le_trans hF.size h.size, fun b hb => by
  have hlt : b < w.heap.size := by
   have : ¬ cx.w0.heap.size ≤ b := fun hh => hb (.inl hh)
   have := hF.size
   omega
  rw [h.block b hlt (fun hs => hb (hS b hs)), hF.block b hb]⟩
theorem Sat.turnNew {w w' : World} {C : Chunk} (hS : Sat cx w L) (hF : Fr cx w) (h : Turn w w' Z0 C) : Sat cx w' (L ++ [C]) := by
 obtain ⟨S', h1, h2⟩ := h.out
 exact hS.snoc hF h.grow h1 fun b hb => ⟨((h2 b hb).2.resolve_left (fun x => x)), (h2 b hb).1⟩
theorem Sat.turnAt {w w' : World} {i : Nat} {C0 C : Chunk} (hS : Sat cx w L) (hF : Fr cx w) (hL : L[i]? = some C0)
  (h : ∀ S : Nat → Prop, C0.P S w → (∀ b, S b → b < w.heap.size ∧ cx.own b) → Turn w w' S C) (hs : w.heap.size ≤ w'.heap.size) : Sat cx w' (L.set i C) :=
 hS.set hF hL hs fun S hp hb => by
  have t := h S hp hb
  obtain ⟨S', k1, k2⟩ := t.out
  exact ⟨S', k1, k2, fun b hlt hn => t.block b hlt hn⟩
theorem Sat.at {w : World} {i : Nat} {C : Chunk} (hS : Sat cx w L) (hL : L[i]? = some C) : ∃ S : Nat → Prop, C.P S w ∧ ∀ b, S b → b < w.heap.size ∧ cx.own b := by
 obtain ⟨fp, h1, h2, _⟩ := hS.out
 exact ⟨fp i, h1 i C hL, fun b hb => (h2 i b hb).2⟩
theorem l_runs {o : Oper} {d : Nat} (hw : Yi ops o e = true) (hd : o.dst = some d) (hn : Nat.blt d n = true)
  (h : ∀ w, Fr cx w → Sat cx w L → RunsTo P (ev e) o w fun v w' => WL P n ops Q rest (upd e d v) w') : At cx (WL P n ops Q (o :: rest)) e L :=
 ⟨fun w hF hS => ⟨fun a ha => by
  have hr := h w hF hS
  unfold RunsTo at hr
  unfold wpList
  rw [Jel ha, hw, if_pos rfl]
  refine .inl ?_
  unfold Oper.wp
  rw [ha.ev]
  generalize (execOp (ev e) o).run P w = r at hr
  cases r with
  | halt x w' => exact hr.elim
  | ok nx w' =>
   cases nx with
   | value v =>
    show wpList P ops (lift n Q) rest (a.put o.dst v) w'
    rw [hd]
    exact hr.out _ (ha.put hn v)
   | skip =>
    show wpList P ops (lift n Q) rest (a.put o.dst undef) w'
    rw [hd]
    exact hr.out _ (ha.put hn undef)
   | enter f args =>
    refine Calls.mono hr ?_
    rintro en w'' ⟨v, rfl, hk⟩
    show wpList P ops (lift n Q) rest (a.put o.dst v) w''
    rw [hd]
    exact hk.out _ (ha.put hn v)
   | _ => exact hr.elim⟩⟩
def Turns (P : Program) (cx : Cx) (e : X4) (o : Oper) (L : List Chunk) (i : Nat) (rds : List Nat) {σ : Type} (G : σ → Value) (C : σ → Chunk) : Prop :=
 ∀ w L', Fr cx w → Sat cx w L' → L'.length = L.length → (∀ j, j ∈ rds ∨ j = i → L'[j]? = L[j]?) → RunsTo P (ev e) o w fun v w' => ∃ x, v = G x ∧ Fr cx w' ∧ Sat cx w' (L'.set i (C x))
def Makes (P : Program) (cx : Cx) (e : X4) (o : Oper) (L : List Chunk) (rds : List Nat) {σ : Type} (G : σ → Value) (C : σ → Chunk) : Prop :=
 ∀ w L', Fr cx w → Sat cx w L' → (∀ j, j ∈ rds → L'[j]? = L[j]?) → RunsTo P (ev e) o w fun v w' => ∃ x, v = G x ∧ Turn w w' Z0 (C x)
theorem Qh {σ : Type} {o : Oper} {d i : Nat} {rds : List Nat} {G : σ → Value} {C : σ → Chunk} (h : Turns P cx e o L i rds G C) (hw : Yi ops o e = true) (hd : o.dst = some d) (hn : Nat.blt d n = true)
  (k : ∀ x, At cx (WL P n ops Q rest) (upd e d (G x)) (L.set i (C x))) : At cx (WL P n ops Q (o :: rest)) e L :=
 l_runs hw hd hn fun w hF hS => (h w L hF hS rfl (fun _ _ => rfl)).mono fun v w' ⟨x, hv, hF', hS'⟩ => by
  subst hv
  exact (k x).out w' hF' hS'
theorem V8 {σ : Type} {o : Oper} {d : Nat} {rds : List Nat} {G : σ → Value} {C : σ → Chunk} (h : Makes P cx e o L rds G C) (hw : Yi ops o e = true) (hd : o.dst = some d) (hn : Nat.blt d n = true)
  (k : ∀ x, At cx (WL P n ops Q rest) (upd e d (G x)) (L ++ [C x])) : At cx (WL P n ops Q (o :: rest)) e L :=
 l_runs hw hd hn fun w hF hS => (h w L hF hS (fun _ _ => rfl)).mono fun v w' ⟨x, hv, ht⟩ => by
  subst hv
  exact (k x).out w' (hF.grow ht.grow) (hS.turnNew hF ht)
def Kd.t (i : Nat) (rds : List Nat) {σ : Type} (G : σ → Value) (Cv : Value → Chunk) : Kd := .g [] rds [i] (fun _ _ v => ∃ x, v = G x) (fun _ _ v => [Cv v])
theorem Jct {σ : Type} {o : Oper} {d i : Nat} {rds : List Nat} {G : σ → Value} {C : σ → Chunk} {Cv : Value → Chunk} (x0 : σ) (h : Turns P cx e o L i rds G C) (hC : ∀ x, Cv (G x) = C x) (hw : Yi ops o e = true) (hd : o.dst = some d)
  (k : ∀ x, Sq P cx ops F rest ss (upd e d (G x)) (L.set i (C x))) : Sq P cx ops F (o :: rest) (.t i rds G Cv :: ss) e L := by
 refine .take hw ⟨G x0, x0, rfl⟩ ⟨fun w L' hF hS hl hi => ?_⟩ fun v' hv' => ?_
 ·refine (h w L' hF hS hl fun j hj => hi j (by simpa [Kd.t, Kd.rds, Kd.wrs] using hj)).mono fun v w' ⟨x, hv, hF', hS'⟩ => ?_
  subst hv
  refine ⟨⟨x, rfl⟩, hF', ?_⟩
  show Sat cx w' (L'.set i (Cv (G x)))
  rw [hC]; exact hS'
 ·obtain ⟨x, rfl⟩ : ∃ x, v' = G x := hv'
  show Sq P cx ops F rest ss (Jcu e o.dst (G x)) (L.set i (Cv (G x)))
  rw [hC, hd]
  exact k x
theorem d_make {σ : Type} {o : Oper} {d i : Nat} {rds : List Nat} {G : σ → Value} {C : σ → Chunk} {Cv : Value → Chunk} (x0 : σ) (h : Makes P cx e o L rds G C) (hC : ∀ x, Cv (G x) = C x) (hL : L[i]? = some empC) (hw : Yi ops o e = true) (hd : o.dst = some d)
  (k : ∀ x, Sq P cx ops F rest ss (upd e d (G x)) (L.set i (C x))) : Sq P cx ops F (o :: rest) (.t i rds G Cv :: ss) e L := by
 refine Jct x0 (fun w L' hF hS hl hi => ?_) hC hw hd k
 refine (h w L' hF hS fun j hj => hi j (.inl hj)).mono fun v w' ⟨x, hv, ht⟩ => ⟨x, hv, hF.grow ht.grow, ?_⟩
 exact hS.turnAt hF ((hi i (.inr rfl)).trans hL) (fun S hp _ => by
  obtain ⟨S', k1, k2⟩ := ht.out
  exact ⟨ht.os, ht.tape, ht.output, ht.size, fun b hb _ => ht.block b hb (fun x => x), S', k1, fun b hb => ⟨(k2 b hb).1, .inr ((k2 b hb).2.resolve_left (fun x => x))⟩⟩) ht.size
theorem Yy {σ : Type} {d : Nat} {f : FuncId} {A : Array Operand} {tys : Array TypeId} {args : List Value} {rds : List Nat} {G : σ → Value} {C : σ → Chunk}
  (h : ∀ w L', Fr cx w → Sat cx w L' → (∀ j ∈ rds, L'[j]? = L[j]?) → Does P f args.toArray w fun v w' => ∃ x, v = G x ∧ Turn w w' Z0 (C x)) (hc : ∀ args w, (callFunc f args).run P w = .ok (.enter f args) w)
  (ha : A.toList.map (ev e) = args) : Makes P cx e ⟨some d, .call ⟨.value (.func f), A, tys⟩, ty, pos, af, g⟩ L rds G C := fun w L' hF hS hi => by
 unfold RunsTo
 rw [Jdc hc ha]
 exact h w L' hF hS hi
def J4 (E : TypeId) (sz : Nat) (v : Value) (n : Nat) (xs : List (List Value)) : Chunk where
 P S w := (w.ownsRow 0 E sz v n xs.flatten ∧ xs.length = n ∧ ∀ x ∈ xs, x.length = sz) ∧ ∀ b, v.ownBlock = some b → S b
 loc S w w' h := by
  rintro ⟨⟨⟨h1, h2⟩, h3⟩, h4⟩
  refine ⟨⟨⟨h1, ?_⟩, h3⟩, h4⟩
  rcases h2 with h2 | ⟨g, Y4, cur, rfl, hb, hh, hr⟩
  ·exact .inl h2
  ·exact .inr ⟨g, Y4, cur, rfl, hb, (h g (h4 g rfl)).trans hh, hr⟩
theorem Jfd {w : World} {E sz n c : Nat} {a : Option Addr} {xs : List (List Value)} (h : w.ownsRow 0 E sz (.slice a n c) n xs.flatten) (hn : xs.length = n) (hl : ∀ x ∈ xs, x.length = sz) : Row w a sz xs := by
 rcases h.2 with ⟨hv, h0⟩ | ⟨g, Y4, cur, hv, _, hh, hnc, _, hcs, ht⟩
 ·exact .inl (List.eq_nil_of_length_eq_zero (hn.trans h0))
 ·simp only [Value.slice.injEq] at hv
  obtain ⟨rfl, _, rfl⟩ := hv
  refine .inr ⟨g, 0, rfl, fun i x hx => ⟨hl x (List.mem_of_getElem? hx), fun j v hj => ?_⟩⟩
  have hg := Jc2 xs i x (List.all_eq_true.2 fun y hy => by simpa using hl y hy) hx j v hj
  rw [← ht, List.getElem?_take] at hg
  split at hg
  ·rw [World.cell?, hh]
   simpa using hg
  ·cases hg
theorem Uk {w : World} {i E sz n c : Nat} {a : Option Addr} {xs : List (List Value)} (hS : Sat cx w L) (hL : L[i]? = some (J4 E sz (.slice a n c) n xs)) : Row w a sz xs := by
 obtain ⟨S, ⟨⟨h1, h2, h3⟩, _⟩, _⟩ := hS.at hL
 exact Jfd h1 h2 h3
theorem lenOf {w : World} {i E sz n : Nat} {v : Value} {xs : List (List Value)} (hS : Sat cx w L) (hL : L[i]? = some (J4 E sz v n xs)) : xs.length = n := by
 obtain ⟨S, ⟨⟨h1, h2, h3⟩, _⟩, _⟩ := hS.at hL
 exact h2
theorem Jp {K : X4 → World → Prop} (E sz : Nat) (k : At cx K e (L ++ [J4 E sz (.slice none 0 0) 0 []])) : At cx K e L :=
 ⟨fun w hF hS => k.out w hF (hS.snoc hF (Grow.refl w) (S := Z0) ⟨⟨World.ownsRow_nil _ _ _ _, rfl, by simp⟩, by simp [Value.ownBlock]⟩ (fun _ h => h.elim))⟩
theorem Xv {K : X4 → World → Prop} (i : Nat) {C C' : Chunk} (hL : L[i]? = some C) (h : Imp C C') (k : At cx K e (L.set i C')) : At cx K e L :=
 ⟨fun w hF hS => k.out w hF (hS.set hF hL (Nat.le_refl _) fun S hp hb => ⟨S, h.out S w hp, fun b hs => ⟨(hb b hs).1, .inl hs⟩, fun _ _ _ => rfl⟩)⟩
theorem Um {o : Oper} {d : Nat} {v : Value} {rds : List Nat} (hr : ∀ w L', Fr cx w → Sat cx w L' → (∀ i ∈ rds, L'[i]? = L[i]?) → (execOp (ev e) o).run P w = .ok (.value v) w) (hw : Yi ops o e = true) (hd : o.dst = some d)
  (k : Sq P cx ops F rest ss (upd e d v) L) : Sq P cx ops F (o :: rest) (.d rds v :: ss) e L :=
 d_det hw hd (fun w L' hF hS hi => by unfold RunsTo; rw [hr w L' hF hS hi]; exact ⟨rfl, Grow.refl w⟩) k
theorem Jjt {d : Option Nat} {S X : Operand} {t E : TypeId} {I : TypeInfo} {z : Value} {sz by_ : Nat} {w : World} {v : Value} {m : Nat} {xs : List Value} {ad : Addr} {q c : Nat} {news : List Value}
  (ht : P.underlying t = some (.slice E)) (hi : P.info? E = some I) (hz : I.zero = some z) (hsize : I.size = sz) (hby : I.bytes = by_) (hzs : z.cells.size = sz) (hsz : 0 < sz)
  (hs : ev e S = v) (hown : w.ownsRow 0 E sz v m xs) (hx : ev e X = .slice (some ad) q c) (hl : news.length = q * sz) (hnews : ∀ j u, news[j]? = some u → w.cell? (ad.add j) = some u) (h1 : ∀ u ∈ news, u.oneCell' = true)
  (h63 : m + q ≤ maxLen) (hbytes : (m + q) * by_ ≤ 140737488355328) :
  ∃ v' w', (execOp (ev e) ⟨d, .call ⟨.builtin .append, #[S, X], #[t, t]⟩, ty, pos, af, g⟩).run P w = .ok (.value v') w' ∧ w'.ownsRow 0 E sz v' (m + q) (xs ++ news) ∧ w.grownBy w' v.ownBlock ∧ (v'.ownBlock = v.ownBlock ∨ v'.ownBlock = some w.heap.size) := by
 obtain ⟨v', w', hr, h2, h3, h4, h5⟩ := run_append_own_at (P := P) w 0 t ty E I z sz by_ ht hi hz hsize hby hzs hsz v m xs hown ad q c news hl hnews h1 h63 hbytes (Nat.zero_le _)
 refine ⟨v', w', ?_, h2, h3, h5⟩
 simp only [execOp, resolve, invoke, builtin, Sem.run_bind, Sem.run_pure, Result.andThen_ok, List.map_toArray, List.map_cons, List.map_nil, hs, hx, hr]
theorem Jhc {w : World} {E sz n : Nat} {v : Value} {xs : List Value} (h : w.ownsRow 0 E sz v n xs) : ∃ p : Option Addr × Nat, v = .slice p.1 n p.2 := by
 rcases h.2 with ⟨rfl, h0⟩ | ⟨g, Y4, cur, rfl, _⟩
 ·subst h0; exact ⟨(none, 0), rfl⟩
 ·exact ⟨(some ⟨g, 0, none⟩, Y4), rfl⟩
theorem Je4 {w w' : World} {E sz m' : Nat} {v v' : Value} {xs' : List (List Value)} {S : Nat → Prop} (hS : ∀ b, v.ownBlock = some b → S b) (ho : w'.ownsRow 0 E sz v' m' xs'.flatten) (hg : w.grownBy w' v.ownBlock)
  (h5 : v'.ownBlock = v.ownBlock ∨ v'.ownBlock = some w.heap.size) (hn : xs'.length = m') (hl : ∀ x ∈ xs', x.length = sz) : Turn w w' S (J4 E sz v' m' xs') := by
 refine ⟨hg.os, hg.tape, hg.output, hg.size, fun b hb hn => hg.block b hb (fun h => hn (hS b h.symm)), fun b => v'.ownBlock = some b, ⟨⟨ho, hn, hl⟩, fun b h => h⟩, fun b hb => ⟨(ho.lt b hb).2, ?_⟩⟩
 rcases h5 with h | h
 ·exact .inl (hS b (h ▸ hb))
 ·rw [h] at hb; cases hb; exact .inr (Nat.le_refl _)
theorem Sat.turnOf {w w' : World} {i : Nat} {C0 C : Chunk} (hS : Sat cx w L) (hF : Fr cx w) (hL : L[i]? = some C0)
  (h : ∀ S : Nat → Prop, C0.P S w → Turn w w' S C) : Fr cx w' ∧ Sat cx w' (L.set i C) := by
 obtain ⟨S, hp, hb⟩ := hS.at hL
 have t := h S hp
 exact ⟨hF.turn t fun b hs => (hb b hs).2, hS.turnAt hF hL (fun S hp _ => h S hp) t.size⟩
theorem Jff {sz : Nat} : ∀ (xs : List (List Value)), (∀ x ∈ xs, x.length = sz) → ∀ (j : Nat) (u : Value), xs.flatten[j]? = some u → ∃ i k x, xs[i]? = some x ∧ x[k]? = some u ∧ j = i * sz + k
 | [], _, j, u, h => by simp at h
 | x :: r, hl, j, u, h => by
  have hx := hl x (by simp)
  rw [List.flatten_cons] at h
  rcases Nat.lt_or_ge j x.length with hj | hj
  ·rw [List.getElem?_append_left hj] at h
   exact ⟨0, j, x, by simp, h, by simp⟩
  ·rw [List.getElem?_append_right hj] at h
   obtain ⟨i, k, y, h1, h2, h3⟩ := Jff r (fun y hy => hl y (by simp [hy])) _ u h
   exact ⟨i + 1, k, y, by simpa using h1, h2, by rw [Nat.succ_mul]; omega⟩
theorem Ua {sz : Nat} : ∀ (xs : List (List Value)), (∀ x ∈ xs, x.length = sz) → xs.flatten.length = xs.length * sz
 | [], _ => by simp
 | x :: r, hl => by
  rw [List.flatten_cons, List.length_append, Ua r (fun y hy => hl y (by simp [hy])), hl x (by simp), List.length_cons, Nat.succ_mul]
  omega
theorem Jhj {i : Nat} {S X : Operand} {t E : TypeId} {I : TypeInfo} {z : Value} {sz by_ : Nat} {p : Option Addr × Nat} {m m' : Nat} {xs xs' : List (List Value)} {ad : Addr} {q c : Nat} {news : List (List Value)} {rds : List Nat}
  (ht : P.underlying t = some (.slice E)) (hi : P.info? E = some I) (hz : I.zero = some z) (hsize : I.size = sz) (hby : I.bytes = by_) (hzs : z.cells.size = sz) (hsz : Nat.blt 0 sz = true)
  (hL : L[i]? = some (J4 E sz (.slice p.1 m p.2) m xs)) (hs : ev e S = .slice p.1 m p.2) (hx : ev e X = .slice (some ad) q c) (hq : news.length = q) (hnl : ∀ x ∈ news, x.length = sz)
  (hnews : ∀ w L', Fr cx w → Sat cx w L' → (∀ j, j ∈ rds → L'[j]? = L[j]?) → Row w (some ad) sz news) (h1 : ∀ x ∈ news, ∀ u ∈ x, u.oneCell' = true)
  (hxs : xs ++ news = xs') (hm : m + q = m') (h63 : m' ≤ 9223372036854775807) (hbytes : m' * by_ ≤ 140737488355328) :
  Turns P cx e ⟨some d, .call ⟨.builtin .append, #[S, X], #[t, t]⟩, ty, pos, af, g⟩ L i rds (fun p' : Option Addr × Nat => .slice p'.1 m' p'.2) (fun p' => J4 E sz (.slice p'.1 m' p'.2) m' xs') := fun w L' hF hS hl hi' => by
  subst hxs hm
  have hL' := (hi' i (.inr rfl)).trans hL
  obtain ⟨S0, ⟨⟨ho, hlen, hlx⟩, hob⟩, _⟩ := hS.at hL'
  have hsz' : 0 < sz := by simpa using hsz
  have hfl : news.flatten.length = q * sz := by rw [Ua news hnl, hq]
  have hcell : ∀ j u, news.flatten[j]? = some u → w.cell? (ad.add j) = some u := by
   intro j u hj
   obtain ⟨i', k', x, g1, g2, g3⟩ := Jff news hnl j u hj
   rcases hnews w L' hF hS (fun j hj => hi' j (.inl hj)) with h | ⟨b, off, ha, h⟩
   ·subst h; simp at g1
   ·cases ha
    have := (h i' x g1).2 k' u g2
    rw [Addr.add_lit, g3, ← Nat.add_assoc]
    exact this
  obtain ⟨v', w', hr, h2, h3, h5⟩ := Jjt (P := P) (ty := ty) (pos := pos) (af := af) (g := g) (d := some d) ht hi hz hsize hby hzs hsz' hs ho hx hfl hcell (by
   intro u hu
   obtain ⟨x, hx, hux⟩ := List.mem_flatten.1 hu
   exact h1 x hx u hux) (by simp only [maxLen]; omega) hbytes
  obtain ⟨p', rfl⟩ := Jhc h2
  rw [← List.flatten_append] at h2
  obtain ⟨hF', hS'⟩ := hS.turnOf hF hL' (C := J4 E sz (.slice p'.1 (m + q) p'.2) (m + q) (xs ++ news)) fun S1 hp => Je4 hp.2 h2 h3 h5 (by simp [hlen, hq]) (by
   intro x hx
   rcases List.mem_append.1 hx with h | h
   ·exact hlx x h
   ·exact hnl x h)
  unfold RunsTo
  rw [hr]
  exact ⟨p', rfl, hF', hS'⟩
theorem rep_flat (l : List Value) : ∀ (n j : Nat), j < n * l.length → (List.replicate n l).flatten[j]? = l[j % l.length]?
 | 0, j, h => by simp at h
 | n + 1, j, h => by
  rw [List.replicate_succ, List.flatten_cons]
  rcases Nat.lt_or_ge j l.length with hj | hj
  ·rw [List.getElem?_append_left hj, Nat.mod_eq_of_lt hj]
  ·rw [List.getElem?_append_right hj, rep_flat l n (j - l.length) (by rw [Nat.succ_mul] at h; omega), ← Nat.mod_eq_sub_mod hj]
theorem made_rep (z : Array Value) (n : Nat) (hz : 0 < z.size) : (madeCells z (n * z.size)).toList = (List.replicate n z.toList).flatten := by
 refine List.ext_getElem? fun j => ?_
 rcases Nat.lt_or_ge j (n * z.size) with hj | hj
 ·have h1 := rep_flat z.toList n j (by simpa using hj)
  rw [h1]
  have hm : j % z.size < z.size := Nat.mod_lt _ hz
  simp [madeCells, hj, hm]
 ·rw [List.getElem?_eq_none (by simpa [madeCells] using hj), List.getElem?_eq_none]
  rw [Ua (sz := z.size) _ (by intro x hx; rw [List.eq_of_mem_replicate hx]; simp)]
  simpa using hj
theorem Jex {N C : Operand} {t E : TypeId} {I : TypeInfo} {z : Value} {sz by_ : Nat} {m c : Nat} {kl kc : IntKind} {rds : List Nat} {zs : List (List Value)} (ht : P.underlying t = some (.slice E)) (hi : P.info? E = some I) (hz : I.zero = some z) (hsize : I.size = sz) (hby : I.bytes = by_)
  (hzs : z.cells.toList.length = sz) (hsz : Nat.blt 0 sz = true) (hn : ev e N = .int kl (m : Int)) (hc : ev e C = .int kc (c : Int)) (hmc : m = c) (hb : by_ * c ≤ 281474976710656) (h63 : c ≤ 9223372036854775807) (hzz : zs = List.replicate m z.cells.toList) :
  Makes P cx e ⟨some d, .makeSlice t N C, ty, pos, af, g⟩ L rds (fun p : Option Addr × Nat => .slice p.1 m p.2) (fun p => J4 E sz (.slice p.1 m p.2) m zs) := fun w L' hF hS hi' => by
 subst hsize hby hmc hzz
 obtain ⟨w', hr, ho, hg⟩ := run_make_full (P := P) w 0 t E I z I.size ht hi hz rfl kl kc m hb (by simpa [maxLen] using h63) (Nat.zero_le _)
 have hsz' : 0 < I.size := by simpa using hsz
 have hzz : z.cells.size = I.size := by simpa using hzs
 have ho' : w'.ownsRow 0 E I.size (.slice (some ⟨w.heap.size, 0, none⟩) m m) m (List.replicate m z.cells.toList).flatten := by
  rw [← made_rep z.cells m (by omega), hzz]; exact ho
 unfold RunsTo
 simp only [execOp, hn, hc, hr, Sem.run_bind, Sem.run_pure, Result.andThen_ok]
 refine ⟨(_, _), rfl, hg.os, hg.tape, hg.output, hg.size, fun b hb _ => hg.block b hb (by simp), fun b => b = w.heap.size, ⟨⟨ho', by simp, fun x hx => by rw [List.eq_of_mem_replicate hx]; exact hzs⟩, fun b hb => ?_⟩, fun b hb => ?_⟩
 ·simp [Value.ownBlock] at hb; exact hb.symm
 ·subst hb
  exact ⟨(ho.lt _ rfl).2, .inr (Nat.le_refl _)⟩
def Vo (a : Option Addr) (l m sz : Nat) : Option Addr := if m = l then a else a.map (·.add (l * sz))
theorem Row.cut {w : World} {a : Option Addr} {sz : Nat} {xs : List (List Value)} (h : Row w a sz xs) (l q m : Nat) (hq : l + q ≤ m) : Row w (Vo a l m sz) sz ((xs.drop l).take q) := by
 rcases h with h | ⟨b, off, rfl, h⟩
 ·subst h; exact .inl (by simp)
 ·unfold Vo
  by_cases hm : m = l
  ·have hq0 : q = 0 := by omega
   subst hq0
   exact .inl (by simp)
  ·rw [if_neg hm]
   refine .inr ⟨b, off + l * sz, by simp [Addr.add_lit], fun i x hx => ?_⟩
   rw [List.getElem?_take] at hx
   split at hx
   ·rw [List.getElem?_drop] at hx
    obtain ⟨h1, h2⟩ := h (l + i) x hx
    refine ⟨h1, fun j v hv => ?_⟩
    have := h2 j v hv
    rw [show off + l * sz + i * sz + j = off + (l + i) * sz + j from by rw [Nat.add_mul]; omega]
    exact this
   ·cases hx
theorem Jfw {t u : TypeId} (hu : P.underlying t = some (.slice u)) : P.elem t = u := by simp [Program.elem, hu]
theorem r_sliceLH {d : Option Nat} {X A B : Operand} {a : Option Addr} {m c : Nat} {t u sz : Nat} {ka kb : IntKind} {l h : Int} (hu : P.underlying t = some (.slice u)) (hs : ∀ w, (sizeOf u).run P w = .ok sz w)
  (hx : ev e X = .slice a m c) (ha : ev e A = .int ka l) (hb : ev e B = .int kb h) (h0 : 0 ≤ l) (h1 : l ≤ h) (h2 : h ≤ c) (w : World) :
  (execOp (ev e) ⟨d, .slice t X (some A) (some B) none, ty, pos, af, g⟩).run P w = .ok (.value (.slice (Vo a l.toNat c sz) (h.toNat - l.toNat) (c - l.toNat))) w := by
 have hu' : P.underlying t = some (.slice (P.elem t)) := by rw [Jfw hu]; exact hu
 simp only [execOp, Option.map_some, Option.map_none, hx, ha, hb, Sem.run_bind, run_sliceAt_slice w t _ _ _ _ hu', run_slice_lh w t a m c hu' ka kb l h h0 h1 h2, Jfw hu, hs, Result.andThen_ok, Sem.run_pure, sliced, Vo]
theorem r_sliceL {d : Option Nat} {X A : Operand} {a : Option Addr} {m c : Nat} {t u sz : Nat} {ka : IntKind} {l : Int} (hu : P.underlying t = some (.slice u)) (hs : ∀ w, (sizeOf u).run P w = .ok sz w)
  (hx : ev e X = .slice a m c) (ha : ev e A = .int ka l) (h0 : 0 ≤ l) (h1 : l ≤ m) (w : World) :
  (execOp (ev e) ⟨d, .slice t X (some A) none none, ty, pos, af, g⟩).run P w = .ok (.value (.slice (Vo a l.toNat c sz) (m - l.toNat) (c - l.toNat))) w := by
 have hu' : P.underlying t = some (.slice (P.elem t)) := by rw [Jfw hu]; exact hu
 simp only [execOp, Option.map_some, Option.map_none, hx, ha, Sem.run_bind, run_sliceAt_slice w t _ _ _ _ hu', run_slice_l w t a m c hu' ka l h0 h1, Jfw hu, hs, Result.andThen_ok, Sem.run_pure, sliced, Vo]
theorem r_sliceHM {d : Option Nat} {X B M : Operand} {a : Option Addr} {m c : Nat} {t u sz : Nat} {kb km : IntKind} {h q : Int} (hu : P.underlying t = some (.slice u)) (hs : ∀ w, (sizeOf u).run P w = .ok sz w)
  (hx : ev e X = .slice a m c) (hb : ev e B = .int kb h) (hm : ev e M = .int km q) (h0 : 0 ≤ h) (h1 : h ≤ q) (h2 : q ≤ c) (w : World) :
  (execOp (ev e) ⟨d, .slice t X none (some B) (some M), ty, pos, af, g⟩).run P w = .ok (.value (.slice (Vo a 0 q.toNat sz) h.toNat q.toNat)) w := by
 have hu' : P.underlying t = some (.slice (P.elem t)) := by rw [Jfw hu]; exact hu
 simp only [execOp, Option.map_some, Option.map_none, hx, hb, hm, Sem.run_bind, run_sliceAt_slice w t _ _ _ _ hu', run_slice_hm w t a m c hu' kb km h q h0 h1 h2, Jfw hu, hs, Result.andThen_ok, Sem.run_pure, sliced, Vo, Nat.sub_zero]
theorem Jal {α : Type} {f : α → List Value} {ys ls : List α} {i k b : Nat} {S X : Operand} {t E T : TypeId} {I : TypeInfo} {z : Value} {sz by_ : Nat} {p : Option Addr × Nat} {m q : Nat} {cs : List Value} {xs : List (List Value)}
  (ht : P.underlying t = some (.slice E)) (hi : P.info? E = some I) (hz : I.zero = some z) (hsize : I.size = sz) (hby : I.bytes = by_) (hzs : z.cells.size = sz) (hsz : Nat.blt 0 sz = true)
  (hL : L[i]? = some (J4 E sz (.slice p.1 m p.2) m xs)) (hxs : xs = ys.map f) (hm : m = ys.length) (hs : ev e S = .slice p.1 m p.2) (hx : ev e X = .slice (some ⟨b, 0, none⟩) q q) (hk : L[k]? = some (Jf b cs T)) (hcs : (ls.map f).flatten = cs) (hq : (ls.map f).length = q)
  (hnl : ((ls.map f).all fun x => Nat.beq x.length sz) = true) (h1 : ((ls.map f).all fun x => x.all Value.oneCell') = true) (h63 : (ys ++ ls).length * by_ ≤ 140737488355328) (hb0 : Nat.blt 0 by_ = true) :
  Turns P cx e ⟨some d, .call ⟨.builtin .append, #[S, X], #[t, t]⟩, ty, pos, af, g⟩ L i [k] (fun p' : Option Addr × Nat => .slice p'.1 (ys ++ ls).length p'.2) (fun p' => J4 E sz (.slice p'.1 (ys ++ ls).length p'.2) (ys ++ ls).length ((ys ++ ls).map f)) := by
 subst hxs hm
 exact Jhj ht hi hz hsize hby hzs hsz hL hs hx hq (fun x hx => by simpa using List.all_eq_true.1 hnl x hx) (fun w L' hF hS hj => Wy hS ((hj k (by simp)).trans hk) hcs hnl)
  (fun x hx u hu => List.all_eq_true.1 (List.all_eq_true.1 h1 x hx) u hu) (List.map_append (f := f) (l₁ := ys) (l₂ := ls)).symm (by rw [List.length_append, ← hq, List.length_map]) (by
   have hb : 1 ≤ by_ := by have : 0 < by_ := by simpa using hb0
                           omega
   have : (ys ++ ls).length * 1 ≤ (ys ++ ls).length * by_ := Nat.mul_le_mul_left _ hb
   omega) h63
theorem capOf {w : World} {i E sz n c : Nat} {a : Option Addr} {xs : List (List Value)} (hS : Sat cx w L) (hL : L[i]? = some (J4 E sz (.slice a n c) n xs)) : n ≤ c := by
 obtain ⟨S, ⟨⟨h1, h2, h3⟩, _⟩, _⟩ := hS.at hL
 rcases h1.2 with ⟨hv, h0⟩ | ⟨g, Y4, cur, hv, _, hh, hnc, _⟩
 ·simp only [Value.slice.injEq] at hv; omega
 ·simp only [Value.slice.injEq] at hv; omega
theorem own_cut {a : Option Addr} {m c l : Nat} (sz : Nat) {x y : Nat} : (Value.slice (Vo a l m sz) x c).ownBlock = (Value.slice a y c).ownBlock := by
 unfold Vo
 cases a with
 | none => split <;> rfl
 | some a =>
  split
  ·rfl
  ·simp only [Value.ownBlock, Option.map_some, Addr.add]
   split <;> rfl
theorem imp_box {b m sz : Nat} {cs : List Value} {T E : TypeId} {xs : List (List Value)} (hT : T = E) (hcs : xs.flatten = cs) (hl : (xs.all fun x => Nat.beq x.length sz) = true) (hm : xs.length = m ∧ m ≤ 9223372036854775807) :
  Imp (Jf b cs T) (J4 E sz (.slice (some ⟨b, 0, none⟩) m m) m xs) := ⟨fun S w h => by
 subst hT hcs
 have hl' : ∀ x ∈ xs, x.length = sz := fun x hx => by simpa using List.all_eq_true.1 hl x hx
 have hf := Ua xs hl'
 refine ⟨⟨⟨by rw [hf, hm.1], .inr ⟨b, m, _, rfl, Nat.zero_le _, h.2, Nat.le_refl _, by simpa [maxLen] using hm.2, by simp [hf, hm.1], ?_⟩⟩, hm.1, hl'⟩, fun c hc => ?_⟩
 ·rw [List.toList_toArray, List.take_of_length_le (by rw [hf, hm.1]; omega)]
 ·simp [Value.ownBlock] at hc; exact (h.1 c).2 hc.symm⟩
end rules
end Go.Vc

namespace Go.Vc
open Go
section rules
variable {P : Program} {n : Nat} {cx : Cx} {Q : Jbe} {e : X4} {L : List Chunk} {ops : Array Oper} {F : X4 → List Chunk → Prop} {rest : List Oper} {ss : List Kd}
variable {d : Nat} {ty : TypeId} {pos : String} {af : Array Edge} {g : Option (Nat × Bool)}
theorem Jie {sz : Nat} : ∀ (xs : List (List Value)) (i : Nat) (x : List Value), (∀ x ∈ xs, x.length = sz) → i < xs.length → (xs.set i x).flatten = xs.flatten.take (i * sz) ++ x ++ xs.flatten.drop ((i + 1) * sz)
 | [], i, x, _, h => by simp at h
 | y :: r, 0, x, hl, _ => by
  have hy := hl y (by simp)
  simp [hy.symm]
 | y :: r, i + 1, x, hl, h => by
  have hy := hl y (by simp)
  have ih := Jie r i x (fun z hz => hl z (by simp [hz])) (by simpa using h)
  have e1 : (y ++ r.flatten).take ((i + 1) * sz) = y ++ r.flatten.take (i * sz) := by
   rw [List.take_append, List.take_of_length_le (l := y) (by rw [Nat.succ_mul]; omega), show (i + 1) * sz - y.length = i * sz from by rw [Nat.succ_mul]; omega]
  have e2 : (y ++ r.flatten).drop ((i + 1 + 1) * sz) = r.flatten.drop ((i + 1) * sz) := by
   rw [List.drop_append, List.drop_of_length_le (l := y) (by rw [Nat.succ_mul]; omega), show (i + 1 + 1) * sz - y.length = (i + 1) * sz from by rw [Nat.succ_mul (i + 1)]; omega, List.nil_append]
  rw [List.set_cons_succ, List.flatten_cons, ih, List.flatten_cons, e1, e2]
  simp
theorem flat_at {sz : Nat} (xs : List (List Value)) (i : Nat) (x : List Value) (hl : ∀ x ∈ xs, x.length = sz) (hx : xs[i]? = some x) : x = (xs.flatten.drop (i * sz)).take sz := by
 have hxl := hl x (List.mem_of_getElem? hx)
 refine List.ext_getElem? fun j => ?_
 rcases Nat.lt_or_ge j x.length with hj | hj
 ·have := Jc2 xs i x (List.all_eq_true.2 fun y hy => by simpa using hl y hy) hx j x[j] (by simp [hj])
  rw [List.getElem?_take, if_pos (by omega), List.getElem?_drop, this]
  simp [hj]
 ·rw [List.getElem?_eq_none hj, List.getElem?_take, if_neg (by omega)]
theorem set_cells {sz m i j : Nat} {cur vs : List Value} {xs : List (List Value)} {x x' : List Value} (hl : ∀ x ∈ xs, x.length = sz) (ht : cur.take (m * sz) = xs.flatten) (hm : xs.length = m) (hx : xs[i]? = some x) (hc : m * sz ≤ cur.length)
  (h1 : j + vs.length ≤ x.length) (h2 : x' = x.take j ++ vs ++ x.drop (j + vs.length)) :
  (cur.take (i * sz + j) ++ vs ++ cur.drop (i * sz + j + vs.length)).take (m * sz) = (xs.set i x').flatten := by
 have hi : i < xs.length := by
  rcases Nat.lt_or_ge i xs.length with h | h
  ·exact h
  ·simp [List.getElem?_eq_none h] at hx
 have hxl := hl x (List.mem_of_getElem? hx)
 have hle : (i + 1) * sz ≤ m * sz := Nat.mul_le_mul_right _ (by omega)
 rw [Nat.succ_mul] at hle
 have hfx := flat_at xs i x hl hx
 rw [Jie xs i x' hl hi, h2, ← ht]
 rw [← ht] at hfx
 have hTl : (cur.take (m * sz)).length = m * sz := by simp; omega
 generalize hT : cur.take (m * sz) = T at *
 have hcur : cur = T ++ cur.drop (m * sz) := by rw [← hT, List.take_append_drop]
 have hTs : T = T.take (i * sz) ++ (x ++ T.drop ((i + 1) * sz)) := by
  conv => lhs; rw [← List.take_append_drop (i * sz) T]
  rw [hfx]
  congr 1
  rw [Nat.succ_mul, ← List.drop_drop, List.take_append_drop]
 have e1 : cur.take (i * sz + j) = T.take (i * sz) ++ x.take j := by
  rw [hcur, List.take_append_of_le_length (by omega)]
  conv => lhs; rw [hTs]
  rw [List.take_append, List.take_of_length_le (by simp; omega), List.length_take, Nat.min_eq_left (by omega), Nat.add_sub_cancel_left, List.take_append_of_le_length (by omega)]
 have e2 : cur.drop (i * sz + j + vs.length) = x.drop (j + vs.length) ++ (T.drop ((i + 1) * sz) ++ cur.drop (m * sz)) := by
  conv => lhs; rw [hcur, List.drop_append_of_le_length (by omega), hTs]
  rw [List.drop_append, List.drop_of_length_le (l := T.take (i * sz)) (by simp; omega), List.length_take, Nat.min_eq_left (by omega), Nat.add_assoc, Nat.add_sub_cancel_left, List.nil_append, List.drop_append_of_le_length (by omega)]
  simp
 rw [e1, e2]
 have e3 : T.take (i * sz) ++ List.take j x ++ vs ++ (List.drop (j + vs.length) x ++ (List.drop ((i + 1) * sz) T ++ List.drop (m * sz) cur)) = (T.take (i * sz) ++ (x.take j ++ vs ++ x.drop (j + vs.length)) ++ T.drop ((i + 1) * sz)) ++ cur.drop (m * sz) := by simp
 rw [e3, List.take_append_of_le_length, List.take_of_length_le]
 ·simp only [List.length_append, List.length_take, List.length_drop]; rw [Nat.succ_mul]; omega
 ·simp only [List.length_append, List.length_take, List.length_drop]; rw [Nat.succ_mul]; omega
theorem run_storeR {T i j sz szT k m c : Nat} {A X : Operand} {x : Value} {a : Option Addr} {y y' vs : List Value} {xs : List (List Value)} {E : TypeId} {w : World} (hs : ∀ w, (sizeOf T).run P w = .ok szT w) (hp : ev e A = Jbt a k) (hk : k = i * sz + j) (hx : ev e X = x) (hc : x.cells.toList = vs) (hsz : vs.length = szT)
  (hpos : Nat.blt 0 szT = true) (hone : vs.all Value.oneCell' = true) (hy : xs[i]? = some y) (hv : wr y j vs = some y') (ho : w.ownsRow 0 E sz (.slice a m c) m xs.flatten) (hm : xs.length = m) (hl : ∀ x ∈ xs, x.length = sz) :
  ∃ w', (execOp (ev e) ⟨none, .store T A X, ty, pos, af, g⟩).run P w = .ok .skip w' ∧ w'.ownsRow 0 E sz (.slice a m c) m (xs.set i y').flatten ∧ w.grownBy w' (Value.slice a m c).ownBlock := by
 have hpos' : 0 < vs.length := by rw [hsz]; simpa using hpos
 obtain ⟨h1, h2⟩ := wr_eq hv hpos'
 have hi : i < xs.length := by
  rcases Nat.lt_or_ge i xs.length with h | h
  ·exact h
  ·simp [List.getElem?_eq_none h] at hy
 rcases ho.2 with ⟨_, h0⟩ | ⟨g0, Y4, cur, hv0, hb0, hh, hnc, hcm, hcs, htk⟩
 ·omega
 ·simp only [Value.slice.injEq] at hv0
  obtain ⟨rfl, _, rfl⟩ := hv0
  have hyl := hl y (List.mem_of_getElem? hy)
  have hcap : m * sz ≤ c * sz := Nat.mul_le_mul_right _ hnc
  have hle : (i + 1) * sz ≤ m * sz := Nat.mul_le_mul_right _ (by omega)
  rw [Nat.succ_mul] at hle
  have hst := run_storeCells_at P g0 k E vs 0 cur w hh (by rw [hk]; omega) (by simpa using hone)
  have hsz' : x.cells.size = szT := by rw [← hsz, ← hc]; simp
  have hp' : ev e A = .pointer (some ⟨g0, k, none⟩) := by rw [hp]; simp [Jbt]
  simp only [Nat.add_zero] at hst
  refine ⟨w.setRow g0 (cur.toList.take k ++ vs ++ cur.toList.drop (k + vs.length)).toArray, by
   simp only [execOp, Instr.storeAt, Instr.sureAddr, storeVar, hp', hx, Sem.run_bind, Sem.run_pure, Result.andThen_ok, hs, hsz', ne_eq, not_true_eq_false, if_false, hc, hst], ⟨?_, .inr ⟨g0, c, _, rfl, hb0, setRow_heap w g0 cur _ E _ hh, hnc, hcm, ?_, ?_⟩⟩, ⟨rfl, rfl, rfl, by simp, fun b _ hb => setRow_other w g0 b _ (fun e => hb (by simp [Value.ownBlock, e]))⟩⟩
  ·rw [Ua (sz := sz) _ (by
    intro z hz
    rcases List.mem_or_eq_of_mem_set hz with h | h
    ·exact hl z h
    ·subst h; rw [h2]; simp only [List.length_append, List.length_take, List.length_drop]; omega)]
   simp [hm]
  ·simp only [List.size_toArray, List.length_append, List.length_take, List.length_drop, Array.length_toList, hcs]
   rw [hk]; omega
  ·rw [List.toList_toArray, hk]
   exact set_cells hl htk hm hy (by simpa [hcs] using hcap) h1 h2
theorem l_storeR {q T i j sz szT k m c : Nat} {A X : Operand} {x : Value} {a : Option Addr} {y y' vs : List Value} {xs xs' : List (List Value)} {E : TypeId} (hs : ∀ w, (sizeOf T).run P w = .ok szT w)
  (hw : Yi ops ⟨none, .store T A X, ty, pos, af, g⟩ e = true) (hp : ev e A = Jbt a k) (hk : k = i * sz + j) (hx : ev e X = x) (hc : x.cells.toList = vs) (hsz : vs.length = szT)
  (hpos : Nat.blt 0 szT = true) (hone : vs.all Value.oneCell' = true) (hL : L[q]? = some (J4 E sz (.slice a m c) m xs)) (hy : xs[i]? = some y) (hv : wr y j vs = some y') (hxs : xs.set i y' = xs')
  (k' : At cx (WL P n ops Q rest) e (L.set q (J4 E sz (.slice a m c) m xs'))) : At cx (WL P n ops Q (⟨none, .store T A X, ty, pos, af, g⟩ :: rest)) e L :=
 l_acts hw rfl fun w hF hS => by
  obtain ⟨S0, ⟨⟨ho, hlen, hlx⟩, hob⟩, _⟩ := hS.at hL
  obtain ⟨w', hr, h2, h3⟩ := run_storeR (P := P) (ty := ty) (pos := pos) (af := af) (g := g) hs hp hk hx hc hsz hpos hone hy hv ho hlen hlx
  subst hxs
  have hpos' : 0 < vs.length := by rw [hsz]; simpa using hpos
  obtain ⟨g1, g2⟩ := wr_eq hv hpos'
  obtain ⟨hF', hS'⟩ := hS.turnOf hF hL (C := J4 E sz (.slice a m c) m (xs.set i y')) fun S1 hp => Je4 hp.2 h2 h3 (.inl rfl) (by simp [hlen]) (by
   intro z hz
   rcases List.mem_or_eq_of_mem_set hz with h | h
   ·exact hlx z h
   ·subst h; rw [g2]; have := hlx y (List.mem_of_getElem? hy); simp only [List.length_append, List.length_take, List.length_drop]; omega)
  exact ⟨w', hr, k'.out w' hF' hS'⟩
theorem X0 {T : TypeId} {I : TypeInfo} (h : ∀ w, (typeInfo T).run P w = .ok I w) : P.info? T = some I := by
 have := h default
 unfold typeInfo at this
 cases hi : P.info? T with
 | none => simp [hi] at this
 | some J => simp [hi] at this; rw [this]
abbrev str (s : List UInt8) : Value := .string ⟨s.toArray⟩
theorem Yx {d : Option Nat} {X : Operand} {s : List UInt8} {t : TypeId} (hu : P.underlying t = some .string) (hx : ev e X = str s) (w : World) :
  (execOp (ev e) ⟨d, .call ⟨.builtin .len, #[X], #[t]⟩, ty, pos, af, g⟩).run P w = .ok (.value (.int .i64 s.length)) w := by
 rw [r_lenS hu hx]; rfl
theorem r_concat {d : Option Nat} {t t' : TypeId} {X Y : Operand} {a b : List UInt8} (hx : ev e X = str a) (hy : ev e Y = str b) (hl : a.length + b.length ≤ 9223372036854775807) (w : World) :
  (execOp (ev e) ⟨d, .binOp .add t X Y t', ty, pos, af, g⟩).run P w = .ok (.value (str (a ++ b))) w := by
 have h := run_string_add_sum (P := P) w (ByteArray.mk a.toArray) (ByteArray.mk b.toArray) (by simpa [ByteArray.size] using hl)
 simp [execOp, hx, hy, eqGuard, binOp_string_add, h, ByteArray.mk_append_mk]
theorem Jh6 {d : Option Nat} {t t' : TypeId} {X Y : Operand} {a b : List UInt8} (hx : ev e X = str a) (hy : ev e Y = str b) (w : World) :
  (execOp (ev e) ⟨d, .binOp .eql t X Y t', ty, pos, af, g⟩).run P w = .ok (.value (.bool (decide (a = b)))) w := by
 have : (a == b) = decide (a = b) := by rw [Bool.eq_iff_iff]; simp
 simp [execOp, hx, hy, eqGuard, binOp_string_eql, this]
theorem Je0 {d : Option Nat} {t t' : TypeId} {X Y : Operand} {a b : List UInt8} (hx : ev e X = str a) (hy : ev e Y = str b) (w : World) :
  (execOp (ev e) ⟨d, .binOp .neq t X Y t', ty, pos, af, g⟩).run P w = .ok (.value (.bool (decide (a ≠ b)))) w := by
 have : (a == b) = decide (a = b) := by rw [Bool.eq_iff_iff]; simp
 simp [execOp, hx, hy, eqGuard, binOp_string_neq, this]
theorem r_indexT {d : Option Nat} {t : TypeId} {X I : Operand} {s : List UInt8} {k : IntKind} {i : Int} (hu : P.underlying t = some .string) (hx : ev e X = str s) (hi : ev e I = .int k i) (h0 : 0 ≤ i) (h1 : i < s.length) (w : World) :
  (execOp (ev e) ⟨d, .index t X I, ty, pos, af, g⟩).run P w = .ok (.value (.int .u8 ((s.getD i.toNat 0).toNat : Nat))) w := by
 have hlt : i.toNat < s.length := by omega
 have h : (0 ≤ i ∧ i < ((ByteArray.mk s.toArray).size : Nat)) := ⟨h0, by simpa [ByteArray.size] using h1⟩
 simp only [execOp, hx, hi, Sem.run_bind, run_index_string w t _ k i hu, dif_pos h, Result.andThen_ok, Sem.run_pure]
 have : (ByteArray.mk s.toArray)[i.toNat]'(by simpa [ByteArray.size] using hlt) = s.getD i.toNat 0 := by
  rw [List.getD_eq_getElem?_getD, List.getElem?_eq_getElem hlt]; rfl
 rw [this]
theorem Jem (s : List UInt8) (a b : Nat) : (ByteArray.mk s.toArray).extract a b = ByteArray.mk ((s.drop a).take (b - a)).toArray := ByteArray.extract_mk s a b
theorem r_cutT {d : Option Nat} {t : TypeId} {X A B : Operand} {s : List UInt8} {ka kb : IntKind} {l h : Int} (hu : P.underlying t = some .string) (hx : ev e X = str s) (ha : ev e A = .int ka l) (hb : ev e B = .int kb h) (h0 : 0 ≤ l) (h1 : l ≤ h) (h2 : h ≤ s.length) (w : World) :
  (execOp (ev e) ⟨d, .slice t X (some A) (some B) none, ty, pos, af, g⟩).run P w = .ok (.value (str ((s.drop l.toNat).take (h.toNat - l.toNat)))) w := by
 have h' := run_slice_string (P := P) w t (ByteArray.mk s.toArray) ka kb l h hu h0 h1 (by simpa [ByteArray.size] using h2)
 simp only [execOp, Option.map_some, Option.map_none, hx, ha, hb, Sem.run_bind, run_sliceAt_string w t _ _ _ _ hu, h', Result.andThen_ok, Sem.run_pure, Jem]
theorem r_cutTo {d : Option Nat} {t : TypeId} {X B : Operand} {s : List UInt8} {kb : IntKind} {h : Int} (hu : P.underlying t = some .string) (hx : ev e X = str s) (hb : ev e B = .int kb h) (h0 : 0 ≤ h) (h2 : h ≤ s.length) (w : World) :
  (execOp (ev e) ⟨d, .slice t X none (some B) none, ty, pos, af, g⟩).run P w = .ok (.value (str (s.take h.toNat))) w := by
 have h' := run_slice_string_to_if (P := P) w t (ByteArray.mk s.toArray) kb h hu
 rw [if_pos ⟨h0, by simpa [ByteArray.size] using h2⟩] at h'
 simp only [execOp, Option.map_some, Option.map_none, hx, hb, Sem.run_bind, run_sliceAt_string w t _ _ _ _ hu, h', Result.andThen_ok, Sem.run_pure, Jem, List.drop_zero, Nat.sub_zero]
theorem r_cutFrom {d : Option Nat} {t : TypeId} {X A : Operand} {s : List UInt8} {ka : IntKind} {l : Int} (hu : P.underlying t = some .string) (hx : ev e X = str s) (ha : ev e A = .int ka l) (h0 : 0 ≤ l) (h2 : l ≤ s.length) (w : World) :
  (execOp (ev e) ⟨d, .slice t X (some A) none none, ty, pos, af, g⟩).run P w = .ok (.value (str (s.drop l.toNat))) w := by
 have h' := run_slice_string_from_if (P := P) w t (ByteArray.mk s.toArray) ka l hu
 rw [if_pos ⟨h0, by simpa [ByteArray.size] using h2⟩] at h'
 have hs : (ByteArray.mk s.toArray).size = s.length := by simp [ByteArray.size]
 simp only [execOp, Option.map_some, Option.map_none, hx, ha, Sem.run_bind, run_sliceAt_string w t _ _ _ _ hu, h', Result.andThen_ok, Sem.run_pure, Jem, hs]
 rw [List.take_of_length_le (by simp)]
end rules
end Go.Vc

namespace Go.Lx
open Go Go.Vc Go.Md
abbrev J1 := Nat → Option Obj
def Know (h : J1) (w : World) (S : Nat → Prop) : Prop := ∀ b o, h b = some o → w.heap[b]? = some o ∧ ¬ S b
theorem Know.now {h : J1} {w0 w : World} {S : Nat → Prop} (k : Know h w0 S) (hF : Fr ⟨w0, S⟩ w) (b : Nat) (o : Obj) (hb : h b = some o) : w.heap[b]? = some o := by
 obtain ⟨h1, h2⟩ := k b o hb
 have hlt : b < w0.heap.size := by
  rcases Nat.lt_or_ge b w0.heap.size with h | h
  ·exact h
  ·rw [Array.getElem?_eq_none h] at h1; cases h1
 have hn : ¬ (Cx.own ⟨w0, S⟩ b) := by
  rintro (h | h)
  ·exact absurd h (by show ¬ w0.heap.size ≤ b; omega)
  ·exact h2 h
 rw [hF.block b hn]
 exact h1
def RowH (h : J1) (a : Option Addr) (sz : Nat) (xs : List (List Value)) : Prop :=
 xs = [] ∨ ∃ b off cs T m, a = some ⟨b, off, none⟩ ∧ h b = some (.cells cs T m) ∧ ∀ (i : Nat) (x : List Value), xs[i]? = some x → x.length = sz ∧ ∀ (j : Nat) (v : Value), x[j]? = some v → cs[off + i * sz + j]? = some v
theorem RowH.row {h : J1} {w : World} {a : Option Addr} {sz : Nat} {xs : List (List Value)} (r : RowH h a sz xs) (k : ∀ b o, h b = some o → w.heap[b]? = some o) : Row w a sz xs := by
 rcases r with r | ⟨b, off, cs, T, m, ha, hb, r⟩
 ·exact .inl r
 ·refine .inr ⟨b, off, ha, fun i x hx => ⟨(r i x hx).1, fun j v hv => ?_⟩⟩
  have := (r i x hx).2 j v hv
  simp [World.cell?, k b _ hb, this]
structure FrS (h : J1) (sz : Nat) (v : Value) (xs : List (List Value)) : Prop where
 out : ∃ a c, v = .slice a xs.length c ∧ xs.length ≤ c ∧ c ≤ 9223372036854775807 ∧ RowH h a sz xs
def sa : Value → Option Addr | .slice a _ _ => a | _ => none
def sc : Value → Nat | .slice _ _ c => c | _ => 0
theorem FrS.eq {h : J1} {sz : Nat} {v : Value} {xs : List (List Value)} (f : FrS h sz v xs) : v = .slice (sa v) xs.length (sc v) := by
 obtain ⟨a, c, rfl, _⟩ := f.out; rfl
theorem FrS.len {h : J1} {sz : Nat} {v : Value} {xs : List (List Value)} (f : FrS h sz v xs) : xs.length ≤ sc v ∧ sc v ≤ 9223372036854775807 := by
 obtain ⟨a, c, rfl, h1, h2, _⟩ := f.out; exact ⟨h1, h2⟩
theorem FrS.row {h : J1} {sz : Nat} {v : Value} {xs : List (List Value)} (f : FrS h sz v xs) {w : World} (k : ∀ b o, h b = some o → w.heap[b]? = some o) : Row w (sa v) sz xs := by
 obtain ⟨a, c, rfl, _, _, r⟩ := f.out; exact r.row k
theorem FrS.nil (h : J1) (sz : Nat) : FrS h sz (.slice none 0 0) [] := ⟨none, 0, rfl, by simp, by simp, .inl rfl⟩
theorem RowH.cut {h : J1} {a : Option Addr} {sz : Nat} {xs : List (List Value)} (r : RowH h a sz xs) (l q m : Nat) (hq : l + q ≤ m) : RowH h (Vo a l m sz) sz ((xs.drop l).take q) := by
 rcases r with r | ⟨b, off, cs, T, m', rfl, hb, r⟩
 ·subst r; exact .inl (by simp)
 ·unfold Vo
  by_cases hm : m = l
  ·have hq0 : q = 0 := by omega
   subst hq0
   exact .inl (by simp)
  ·rw [if_neg hm]
   refine .inr ⟨b, off + l * sz, cs, T, m', by simp [Addr.add_lit], hb, fun i x hx => ?_⟩
   rw [List.getElem?_take] at hx
   split at hx
   ·rw [List.getElem?_drop] at hx
    obtain ⟨h1, h2⟩ := r (l + i) x hx
    refine ⟨h1, fun j v hv => ?_⟩
    have := h2 j v hv
    rw [show off + l * sz + i * sz + j = off + (l + i) * sz + j from by rw [Nat.add_mul]; omega]
    exact this
   ·cases hx
def cutV (sz : Nat) (v : Value) (l h : Int) : Value := .slice (Vo (sa v) l.toNat (sc v) sz) (h.toNat - l.toNat) (sc v - l.toNat)
theorem FrS.cut {α : Type} {h : J1} {sz : Nat} {v : Value} {f : α → List Value} {xs ys : List α} {l q : Int} (s : FrS h sz v (xs.map f)) (e : Qp xs l q = some ys) : FrS h sz (cutV sz v l q) (ys.map f) := by
 obtain ⟨a, c, rfl, h1, h2, r⟩ := s.out
 obtain ⟨g0, g1, g2, rfl⟩ := V2 e
 have hl : ((xs.drop l.toNat).take (q.toNat - l.toNat)).length = q.toNat - l.toNat := by
  rw [List.length_take, List.length_drop]; omega
 simp only [List.length_map] at h1
 refine ⟨⟨Vo a l.toNat c sz, c - l.toNat, ?_, ?_, by omega, ?_⟩⟩
 ·simp only [cutV, sa, sc, List.length_map, hl]
 ·rw [List.length_map, hl]; omega
 ·rw [List.map_take, List.map_drop]
  exact r.cut _ _ _ (by omega)
theorem FrS.mono {h h' : J1} {sz : Nat} {v : Value} {xs : List (List Value)} (s : FrS h sz v xs) (le : ∀ b o, h b = some o → h' b = some o) : FrS h' sz v xs := by
 obtain ⟨a, c, rfl, h1, h2, r⟩ := s.out
 refine ⟨a, c, rfl, h1, h2, ?_⟩
 rcases r with r | ⟨b, off, cs, T, m, ha, hb, r⟩
 ·exact .inl r
 ·exact .inr ⟨b, off, cs, T, m, ha, le b _ hb, r⟩
section ops
variable {P : Program} {e : X4} {d : Option Nat} {ty : TypeId} {pos : String} {af : Array Edge} {g : Option (Nat × Bool)}
section bin
variable {X Y : Operand} {x y z : Int} {t t' : TypeId} {kd k2 : IntKind}
theorem Jy (hx : ev e X = .int .i64 x) (hy : ev e Y = .int .i64 y) (h : gI (x + y) = some z) (w : World) :
  (execOp (ev e) ⟨d, .binOp .add t X Y t', ty, pos, af, g⟩).run P w = .ok (.value (.int .i64 z)) w := by
 obtain ⟨rfl, hb⟩ := Jf6 h; exact r_add hx hy hb w
theorem Zs (hx : ev e X = .int .i64 x) (hy : ev e Y = .int .i64 y) (h : gI (x - y) = some z) (w : World) :
  (execOp (ev e) ⟨d, .binOp .sub t X Y t', ty, pos, af, g⟩).run P w = .ok (.value (.int .i64 z)) w := by
 obtain ⟨rfl, hb⟩ := Jf6 h; exact r_sub hx hy hb w
theorem Z3 (hx : ev e X = .int .i64 x) (hy : ev e Y = .int .i64 y) (h : gI (x * y) = some z) (w : World) :
  (execOp (ev e) ⟨d, .binOp .mul t X Y t', ty, pos, af, g⟩).run P w = .ok (.value (.int .i64 z)) w := by
 obtain ⟨rfl, hb⟩ := Jf6 h; exact r_mul hx hy hb w
theorem r_quoG (hx : ev e X = .int .i64 x) (hy : ev e Y = .int .i64 y) (h : gQuo x y = some z) (w : World) :
  (execOp (ev e) ⟨d, .binOp .quo t X Y t', ty, pos, af, g⟩).run P w = .ok (.value (.int .i64 z)) w := by
 obtain ⟨h0, rfl, hb⟩ := gQuo_some h
 exact Jev hx hy (fun w => by simp [binOp, Op.intDiv, h0, IntWalk.i64_in _ hb]) w
theorem r_remG (hx : ev e X = .int kd x) (hy : ev e Y = .int kd y) (h : gRem x y = some z) (w : World) :
  (execOp (ev e) ⟨d, .binOp .rem t X Y t', ty, pos, af, g⟩).run P w = .ok (.value (.int kd z)) w := by
 obtain ⟨h0, rfl⟩ := gRem_some h; exact r_rem hx hy h0 w
end bin
theorem Yz {X : Operand} {t u sz : TypeId} {h : J1} {v : Value} {xs : List (List Value)} {α : Type} {ys : List α} {f : α → List Value} (hu : P.underlying t = some (.slice u)) (hx : ev e X = v) (hs : FrS h sz v xs) (hxs : xs = ys.map f) (w : World) :
  (execOp (ev e) ⟨d, .call ⟨.builtin .len, #[X], #[t]⟩, ty, pos, af, g⟩).run P w = .ok (.value (.int .i64 ys.length)) w := by
 have := Jdl (P := P) (d := d) (ty := ty) (pos := pos) (af := af) (g := g) hu (hx.trans hs.eq) w
 rw [this, hxs, List.length_map]
theorem Xc {X I : Operand} {t u sz : Nat} {h : J1} {v : Value} {α : Type} {f : α → List Value} {xs : List α} {x : α} {k : IntKind} {i : Int} (hu : P.underlying t = some (.slice u)) (hs : ∀ w, (sizeOf u).run P w = .ok sz w)
  (hx : ev e X = v) (hi : ev e I = .int k i) (hf : FrS h sz v (xs.map f)) (hg : Zb xs i = some x) (w : World) :
  (execOp (ev e) ⟨d, .indexAddr t X I, ty, pos, af, g⟩).run P w = .ok (.value (Jbt (sa v) (i.toNat * sz))) w := by
 obtain ⟨h0, h1, h2⟩ := W8 hg
 obtain ⟨a, c, rfl, _, _, r⟩ := hf.out
 have ha : ∃ b off, a = some ⟨b, off, none⟩ := by
  rcases r with r | ⟨b, off, cs, T, m, ha, _⟩
  ·simp at r; subst r; simp at h1
  ·exact ⟨b, off, ha⟩
 exact r_index hu hs hx hi ha h0 (by rw [List.length_map]; omega) w
theorem Jc9 {h : J1} {sz : Nat} {v : Value} {α : Type} {f : α → List Value} {xs : List α} {x : α} {i : Int} (hf : FrS h sz v (xs.map f)) (hg : Zb xs i = some x) : ∃ b off, sa v = some ⟨b, off, none⟩ := by
 obtain ⟨h0, h1, h2⟩ := W8 hg
 obtain ⟨a, c, rfl, _, _, r⟩ := hf.out
 rcases r with r | ⟨b, off, cs, T, m, ha, _⟩
 ·simp at r; subst r; simp at h1
 ·exact ⟨b, off, ha⟩
theorem map_at {α : Type} {f : α → List Value} {xs : List α} {x : α} {i : Int} (hg : Zb xs i = some x) : (xs.map f)[i.toNat]? = some (f x) := by
 obtain ⟨h0, h1, h2⟩ := W8 hg
 rw [List.getElem?_map, h2]; rfl
theorem U3 {X I : Operand} {a : Option Addr} {m c : Nat} {t u sz sz' : Nat} {k : IntKind} {i : Int} {α : Type} {f : α → List Value} {xs : List α} {x : α} {w : World} (hu : P.underlying t = some (.slice u)) (hs : ∀ w, (sizeOf u).run P w = .ok sz w)
  (hx : ev e X = .slice a m c) (hi : ev e I = .int k i) (hR : Row w a sz' (xs.map f)) (hm : m = xs.length) (hg : Zb xs i = some x) :
  (execOp (ev e) ⟨d, .indexAddr t X I, ty, pos, af, g⟩).run P w = .ok (.value (Jbt a (i.toNat * sz))) w := by
 obtain ⟨h0, h1, h2⟩ := W8 hg
 exact r_index hu hs hx hi (hR.some (i := i.toNat) (by simpa using h1)) h0 (by omega) w
theorem Qw {T k : Nat} {a : Option Addr} {A : Operand} {sz j : Nat} {α : Type} {f : α → List Value} {xs : List α} {x : α} {i : Int} {v : Value} {w : World} (hA : ∀ w, (isAgg T).run P w = .ok false w)
  (hp : ev e A = Jbt a k) (hk : k = i.toNat * sz + j) (hr : Row w a sz (xs.map f)) (hg : Zb xs i = some x) (hv : rg (f x) j = some v) :
  (execOp (ev e) ⟨d, .load T A, ty, pos, af, g⟩).run P w = .ok (.value v) w :=
 run_loadP1 (i := i.toNat) (j := j) hA hp hk hr (map_at hg) hv
theorem Z5 {T k m : Nat} {a : Option Addr} {A : Operand} {sz j : Nat} {α : Type} {f : α → List Value} {xs : List α} {x : α} {i : Int} {vs : List Value} {w : World} (hA : ∀ w, (isAgg T).run P w = .ok true w) (hs : ∀ w, (sizeOf T).run P w = .ok m w)
  (hp : ev e A = Jbt a k) (hk : k = i.toNat * sz + j) (hr : Row w a sz (xs.map f)) (hg : Zb xs i = some x) (hv : rd (f x) j m = some vs) :
  (execOp (ev e) ⟨d, .load T A, ty, pos, af, g⟩).run P w = .ok (.value (.agg vs.toArray)) w :=
 run_loadPN (i := i.toNat) (j := j) hA hs hp hk hr (map_at hg) hv
theorem Y9 {t t' : TypeId} {X Y : Operand} {a b c : List UInt8} (hx : ev e X = str a) (hy : ev e Y = str b) (h : Zo a b = some c) (w : World) :
  (execOp (ev e) ⟨d, .binOp .add t X Y t', ty, pos, af, g⟩).run P w = .ok (.value (str c)) w := by
 obtain ⟨rfl, hl⟩ := gCat_some h; exact r_concat hx hy hl w
theorem Jc8 {t : TypeId} {X I : Operand} {s : List UInt8} {k : IntKind} {i c : Int} (hu : P.underlying t = some .string) (hx : ev e X = str s) (hi : ev e I = .int k i) (h : gOct s i = some c) (w : World) :
  (execOp (ev e) ⟨d, .index t X I, ty, pos, af, g⟩).run P w = .ok (.value (.int .u8 c)) w := by
 obtain ⟨h0, h1, rfl⟩ := gOct_some h; exact r_indexT hu hx hi h0 h1 w
theorem Jep {t : TypeId} {X A B : Operand} {s u : List UInt8} {ka kb : IntKind} {l h : Int} (hu : P.underlying t = some .string) (hx : ev e X = str s) (ha : ev e A = .int ka l) (hb : ev e B = .int kb h) (hg : Qp s l h = some u) (w : World) :
  (execOp (ev e) ⟨d, .slice t X (some A) (some B) none, ty, pos, af, g⟩).run P w = .ok (.value (str u)) w := by
 obtain ⟨h0, h1, h2, rfl⟩ := V2 hg; exact r_cutT hu hx ha hb h0 h1 h2 w
theorem Up {t : TypeId} {X B : Operand} {s u : List UInt8} {kb : IntKind} {h : Int} (hu : P.underlying t = some .string) (hx : ev e X = str s) (hb : ev e B = .int kb h) (hg : Qp s 0 h = some u) (w : World) :
  (execOp (ev e) ⟨d, .slice t X none (some B) none, ty, pos, af, g⟩).run P w = .ok (.value (str u)) w := by
 obtain ⟨h0, h1, h2, rfl⟩ := V2 hg
 have := r_cutTo (P := P) (d := d) (ty := ty) (pos := pos) (af := af) (g := g) hu hx hb h1 h2 w
 simpa using this
theorem Jcb {t : TypeId} {X A : Operand} {s u : List UInt8} {ka : IntKind} {l : Int} (hu : P.underlying t = some .string) (hx : ev e X = str s) (ha : ev e A = .int ka l) (hg : Qp s l s.length = some u) (w : World) :
  (execOp (ev e) ⟨d, .slice t X (some A) none none, ty, pos, af, g⟩).run P w = .ok (.value (str u)) w := by
 obtain ⟨h0, h1, h2, rfl⟩ := V2 hg
 have := r_cutFrom (P := P) (d := d) (ty := ty) (pos := pos) (af := af) (g := g) hu hx ha h0 h1 w
 rw [this, List.take_of_length_le (by simp)]
end ops
section rules
variable {P : Program} {n : Nat} {cx : Cx} {Q : Jbe} {e : X4} {L : List Chunk} {ops : Array Oper} {F : X4 → List Chunk → Prop} {rest : List Oper} {ss : List Kd}
structure RoundA {σ τ : Type} (cx : Cx) (st : σ → τ → List (Nat × Value)) (hp : σ → τ → List Chunk) (I : σ → τ → Nat → Prop) (m : Nat) (e : X4) (w : World) : Prop where
 out : ∃ s t k, Jhb e (st s t) ∧ Fr cx w ∧ Sat cx w (hp s t) ∧ I s t k ∧ k < m
theorem Za {σ τ ρ : Type} {c : Code} {r : ρ} (B : (σ → Option ρ) → σ → Option ρ) (st : σ → τ → List (Nat × Value)) (hp : σ → τ → List Chunk) (G : σ → τ → Prop) (s0 : σ) (t0 : τ) (sel : List Nat)
  (H : Vv B s0 = some r) (hG : G s0 t0) (hst : Jhb e (st s0 t0)) (hnd : sel.Nodup) (hL : sel.map (fun i => L[i]?) = (hp s0 t0).map some)
  (round : ∀ (s : σ) (t : τ) (m : Nat) (g : X4), B (it B m) s = some r → G s t →
   At cx (WC P n c (ThenQ (RoundA cx st hp (fun s t k => it B k s = some r ∧ G s t) (m + 1)) Q)) (mkE (st s t) g) (hp s t)) :
  At cx (WC P n (.loop c) Q) e L :=
 ⟨fun w hF hS => ⟨fun a ha => by
  obtain ⟨m0, hm0⟩ := Je9 H
  refine wp_loop_ghost (fun m a' w' => ∃ e' s t, Sim n a' e' ∧ Jhb e' (st s t) ∧ Fr cx w' ∧ Sat cx w' (hp s t) ∧ it B m s = some r ∧ G s t) m0 ⟨e, s0, t0, ha, hst, hF, hS.select sel hnd hL, hm0, hG⟩ ?_
  rintro m a w ⟨e', s, t, ha, hst, hF, hS, hI, hg⟩
  cases m with
  | zero => cases hI
  | succ m =>
   have hr := ((round s t m e' hI hg).out w hF hS).out a (by rw [Jja e' _ hst]; exact ha)
   refine wp_mono hr ?_
   rintro x a' w' ⟨e'', hs', hq⟩
   cases x with
   | normal =>
    obtain ⟨s', t', m', h1, h3, h4, ⟨h5, h7⟩, h6⟩ := hq.out
    exact ⟨m', h6, e'', s', t', hs', h1, h3, h4, h5, h7⟩
   | exit i => exact ⟨e'', hs', hq⟩
   | goto i => exact ⟨e'', hs', hq⟩
   | ret => exact ⟨e'', hs', hq⟩
   | panic i => exact ⟨e'', hs', hq⟩
   | outgrown => exact ⟨e'', hs', hq⟩⟩⟩
theorem c_close {σ τ : Type} {st : σ → τ → List (Nat × Value)} {hp : σ → τ → List Chunk} {I : σ → τ → Nat → Prop} {m : Nat} (s : σ) (t : τ) (k : Nat) (sel : List Nat) (hst : Jhb e (st s t)) (hnd : sel.Nodup) (hL : sel.map (fun i => L[i]?) = (hp s t).map some) (hI : I s t k) (hm : k < m) :
  At cx (RoundA cx st hp I m) e L :=
 ⟨fun _ hF hS => ⟨s, t, k, hst, hF, hS.select sel hnd hL, hI, hm⟩⟩
theorem Qg {σ τ ρ : Type} {x y : Code} {r : ρ} (J : σ → Option ρ) (st : σ → τ → List (Nat × Value)) (hp : σ → τ → List Chunk) (G : σ → τ → Prop)
  (h1 : At cx (WC P n x (ThenQ (RoundA cx st hp (fun s t _ => J s = some r ∧ G s t) 1) Q)) e L)
  (h2 : ∀ (s : σ) (t : τ) (g : X4), J s = some r → G s t → At cx (WC P n y Q) (mkE (st s t) g) (hp s t)) : At cx (WC P n (.seq x y) Q) e L :=
 Jc ⟨fun w hF hS => ⟨fun a ha => Code.wp_mono (fun x' a' w' hq => by
  obtain ⟨e', hs, hq⟩ := hq
  cases x' with
  | normal =>
   obtain ⟨s, t, m, g1, g3, g4, ⟨g5, g7⟩, _⟩ := hq.out
   exact ⟨e', hs, by
    have := (h2 s t e' g5 g7).out w' g3 g4
    rwa [Jja e' _ g1] at this⟩
  | exit i => exact ⟨e', hs, hq⟩
  | goto i => exact ⟨e', hs, hq⟩
  | ret => exact ⟨e', hs, hq⟩
  | panic i => exact ⟨e', hs, hq⟩
  | outgrown => exact ⟨e', hs, hq⟩) ((h1.out w hF hS).out a ha)⟩⟩
theorem Jq (w : World) : Know (fun b => w.heap[b]?) w Z0 := fun b o h => ⟨h, fun x => x⟩
theorem Xl {α : Type} {w : World} {i E sz n : Nat} {p : Option Addr × Nat} {xs : List α} {f : α → List Value} (hn : n = xs.length) (hS : Sat cx w L) (hL : L[i]? = some (J4 E sz (.slice p.1 n p.2) n (xs.map f))) : FrS (fun b => w.heap[b]?) sz (.slice p.1 n p.2) (xs.map f) := by
 subst hn
 obtain ⟨S, ⟨⟨h1, h2, h3⟩, _⟩, _⟩ := hS.at hL
 have hr := Jfd h1 h2 h3
 rcases h1.2 with ⟨hv, h0⟩ | ⟨g, Y4, cur, hv, _, hh, hnc, hm, hcs, ht⟩
 ·simp only [Value.slice.injEq] at hv
  have hxs : xs = [] := List.eq_nil_of_length_eq_zero h0
  subst hxs
  refine ⟨⟨p.1, p.2, by simp, by simp, by omega, .inl (by simp)⟩⟩
 ·simp only [Value.slice.injEq] at hv
  obtain ⟨hp, _, hc⟩ := hv
  refine ⟨⟨p.1, p.2, by simp, by rw [List.length_map, hc]; exact hnc, by rw [hc]; simpa [maxLen] using hm, ?_⟩⟩
  rcases hr with hr | ⟨b, off, ha, hr⟩
  ·exact .inl hr
  ·rw [hp] at ha
   simp only [Option.some.injEq, Addr.mk.injEq] at ha
   obtain ⟨rfl, rfl, _⟩ := ha
   refine .inr ⟨g, 0, cur, E, _, hp, hh, fun i x hx => ⟨(hr i x hx).1, fun j v hv => ?_⟩⟩
   have := (hr i x hx).2 j v hv
   simpa [World.cell?, hh] using this
theorem frs_box {α : Type} {w : World} {i b m T sz : Nat} {cs : List Value} {xs : List α} {f : α → List Value} (hS : Sat cx w L) (hL : L[i]? = some (Jf b cs T)) (hcs : (xs.map f).flatten = cs) (hl : ((xs.map f).all fun x => Nat.beq x.length sz) = true) (hm : xs.length = m) (hm' : Nat.ble m 9223372036854775807 = true) :
  FrS (fun b => w.heap[b]?) sz (.slice (some ⟨b, 0, none⟩) m m) (xs.map f) := by
 subst hm
 refine ⟨⟨some ⟨b, 0, none⟩, xs.length, by simp, by simp, by simpa using hm', .inr ⟨b, 0, cs.toArray, T, (0, 0), rfl, Ql hS hL, fun i x hx => ⟨?_, fun j v hv => ?_⟩⟩⟩⟩
 ·have := List.all_eq_true.1 hl x (List.mem_of_getElem? hx)
  simpa using this
 ·have := Jc2 _ i x hl hx j v hv
  rw [hcs] at this
  simpa using this
end rules
end Go.Lx
