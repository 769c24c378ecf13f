/- Models: partial functions in plain Lean that stand for Go functions, the guards of single operations, and one way to loop and to recur. Conditions: none. -/
import GoSem.Step
import Derived.Shelf.SlGeneric
import Derived.Shelf.SlicesG.Cmp
import Derived.Shelf.SlSortCmp.WholeK
import Derived.Shelf.Small.Bits
import Derived.Ground.SlsfProg
import Derived.Ground.SlgcProg
import Derived.Test.YtkbiccgjkiifpaaGreatDoorProg
import Derived.Orders
import Derived.Tactics
import Derived.Below
import Derived.KernelRfl
import Derived.Laws.Cells
import Derived.Laws.CopyRow
import Derived.Laws.Externs
import Derived.IntWalk
import Derived.Deep.LoopGhost
import Derived.LoopN
import Derived.Laws.StructEq
import Derived.Maps.AppendAt
import Derived.Laws.OwnMore
import Derived.Laws.Slices
import Derived.Laws.Strings3
import Derived.Laws.Concat
set_option linter.unusedVariables false
namespace Go.Md
def Jo {α β : Type} (m : Option α) (k : α → Option β) : Option β :=
 match m with
 | some a => k a
 | none => none
theorem Je {α β : Type} {m : Option α} {k : α → Option β} {r : β} (h : Jo m k = some r) : ∃ a, m = some a ∧ k a = some r := by
 cases m with
 | none => cases h
 | some a => exact ⟨a, rfl, h⟩
@[simp] theorem Jb {α β : Type} (a : α) (k : α → Option β) : Jo (some a) k = k a := rfl
@[simp] theorem bnd_none {α β : Type} (k : α → Option β) : Jo none k = none := rfl
def val {α : Type} [Inhabited α] (m : Option α) : α := m.getD default
theorem Qc {α β : Type} [Inhabited α] {m : Option α} {k : α → Option β} {r : β} (h : Jo m k = some r) : m = some (val m) := by
 cases m with
 | none => cases h
 | some a => rfl
theorem J2 {α β : Type} [Inhabited α] {m : Option α} {k : α → Option β} {r : β} (h : Jo m k = some r) : k (val m) = some r := by
 cases m with
 | none => cases h
 | some a => exact h
def J6 {α : Type} (b : Bool) (x y : Option α) : Option α := match b with | true => x | false => y
theorem Un {α : Type} {b : Bool} {x y : Option α} {r : Option α} (hb : b = true) (h : J6 b x y = r) : x = r := by subst hb; exact h
theorem W4 {α : Type} {b : Bool} {x y : Option α} {r : Option α} (hb : b = false) (h : J6 b x y = r) : y = r := by subst hb; exact h
@[simp] theorem X8 {α : Type} (x y : Option α) : J6 true x y = x := rfl
@[simp] theorem Qf {α : Type} (x y : Option α) : J6 false x y = y := rfl
theorem Zn {α : Type} (p : Prop) [Decidable p] (x y : Option α) : J6 (decide p) x y = if p then x else y := by
 by_cases h : p <;> simp [h]
def it {α ρ : Type} (F : (α → Option ρ) → α → Option ρ) : Nat → α → Option ρ
 | 0, _ => none
 | n + 1, a => F (it F n) a
open Classical in
noncomputable def Z8 {α ρ : Type} (F : (α → Option ρ) → α → Option ρ) (a : α) : Option ρ :=
 if h : ∃ r k, ∀ n, k ≤ n → it F n a = some r then some (Classical.choose h) else none
theorem Jin {α ρ : Type} {F : (α → Option ρ) → α → Option ρ} {a : α} {r : ρ} (h : Z8 F a = some r) : ∃ n, it F n a = some r := by
 unfold Z8 at h
 split at h
 ·rename_i hh
  cases h
  obtain ⟨k, hk⟩ := Classical.choose_spec hh
  exact ⟨k, hk k (Nat.le_refl _)⟩
 ·cases h
theorem Jg1 {α ρ : Type} {F : (α → Option ρ) → α → Option ρ} {a : α} {o : Option ρ} {k : Nat} (h : ∀ n, k ≤ n → it F n a = o) : Z8 F a = o := by
 unfold Z8
 cases o with
 | some r =>
  have hh : ∃ r k, ∀ n, k ≤ n → it F n a = some r := ⟨r, k, h⟩
  rw [dif_pos hh]
  obtain ⟨k', hk'⟩ := Classical.choose_spec hh
  have h1 := hk' (max k k') (Nat.le_max_right _ _)
  rw [h _ (Nat.le_max_left _ _)] at h1
  exact h1.symm
 | none =>
  rw [dif_neg]
  rintro ⟨r, k', hk'⟩
  have h1 := hk' (max k k') (Nat.le_max_right _ _)
  rw [h _ (Nat.le_max_left _ _)] at h1
  cases h1
theorem fix_of {α ρ : Type} {F : (α → Option ρ) → α → Option ρ} (spec : α → Option ρ) (I : α → Prop) (μ : α → Nat)
  (step : ∀ (next : α → Option ρ) (a : α), I a → (∀ b, I b → μ b < μ a → next b = spec b) → F next a = spec a) (a : α) (ha : I a) : Z8 F a = spec a := by
 have key : ∀ (n : Nat) (a : α), I a → μ a < n → it F n a = spec a := by
  intro n
  induction n with
  | zero => intro a _ h; omega
  | succ n ih => intro a ha h; exact step _ a ha fun b hb hlt => ih b hb (by omega)
 exact Jg1 (k := μ a + 1) fun n hn => key n a ha (by omega)
theorem it_ev {α ρ : Type} {F : (α → Option ρ) → α → Option ρ} {a b : α} (h : ∀ next, F next a = next b) : Z8 F a = Z8 F b := by
 by_cases hb : ∃ r k, ∀ n, k ≤ n → it F n b = some r
 ·obtain ⟨r, k, hk⟩ := hb
  rw [Jg1 (o := some r) (k := k) hk, Jg1 (o := some r) (k := k + 1)]
  intro n hn
  cases n with
  | zero => omega
  | succ n => show F (it F n) a = some r; rw [h]; exact hk n (by omega)
 ·have ha : ¬ ∃ r k, ∀ n, k ≤ n → it F n a = some r := by
   rintro ⟨r, k, hk⟩
   exact hb ⟨r, k, fun n hn => by have := hk (n + 1) (by omega); rw [show it F (n + 1) a = F (it F n) a from rfl, h] at this; exact this⟩
  unfold Z8
  rw [dif_neg hb, dif_neg ha]
theorem Xi {α ρ : Type} {F : (α → Option ρ) → α → Option ρ} {a : α} (b : α) (h : ∀ next, F next a = next b) : Z8 F a = Z8 F b := it_ev h
theorem Qs {α ρ : Type} {F : (α → Option ρ) → α → Option ρ} {a : α} {o : Option ρ} (h : ∀ next, F next a = o) : Z8 F a = o :=
 Jg1 (k := 1) fun n hn => by
  cases n with
  | zero => omega
  | succ n => exact h _
def gI (x : Int) : Option Int := if -9223372036854775808 ≤ x ∧ x ≤ 9223372036854775807 then some x else none
theorem Jem {x y : Int} (h : gI x = some y) : y = x ∧ -9223372036854775808 ≤ x ∧ x ≤ 9223372036854775807 := by
 unfold gI at h; split at h
 ·cases h; exact ⟨rfl, ‹_›⟩
 ·cases h
theorem J5 {x : Int} (h : -9223372036854775808 ≤ x ∧ x ≤ 9223372036854775807) : gI x = some x := if_pos h
def gQuo (x y : Int) : Option Int := if y = 0 then none else gI (x.tdiv y)
theorem gQuo_some {x y z : Int} (h : gQuo x y = some z) : y ≠ 0 ∧ z = x.tdiv y ∧ -9223372036854775808 ≤ x.tdiv y ∧ x.tdiv y ≤ 9223372036854775807 := by
 unfold gQuo at h; split at h
 ·cases h
 ·exact ⟨‹_›, Jem h⟩
def gRem (x y : Int) : Option Int := if y = 0 then none else some (x.tmod y)
theorem gRem_some {x y z : Int} (h : gRem x y = some z) : y ≠ 0 ∧ z = x.tmod y := by
 unfold gRem at h; split at h
 ·cases h
 ·cases h; exact ⟨‹_›, rfl⟩
theorem gRem_ok {x y : Int} (hy : y ≠ 0) : gRem x y = some (x.tmod y) := if_neg hy
def Vh {α : Type} (xs : List α) (i : Int) : Option α := if 0 ≤ i then xs[i.toNat]? else none
theorem Z9 {α : Type} {xs : List α} {i : Int} {x : α} (h : Vh xs i = some x) : 0 ≤ i ∧ i.toNat < xs.length ∧ xs[i.toNat]? = some x := by
 unfold Vh at h; split at h
 ·refine ⟨‹_›, ?_, h⟩
  rcases Nat.lt_or_ge i.toNat xs.length with h' | h'
  ·exact h'
  ·rw [List.getElem?_eq_none h'] at h; cases h
 ·cases h
theorem Xg {α : Type} {xs : List α} {k : Nat} (h : k < xs.length) : Vh xs (k : Int) = some xs[k] := by
 unfold Vh; rw [if_pos (by omega), Int.toNat_natCast, List.getElem?_eq_getElem h]
theorem gAt_ok {α : Type} {xs : List α} {i : Int} (h0 : 0 ≤ i) (h : i.toNat < xs.length) : Vh xs i = some xs[i.toNat] := by
 unfold Vh; rw [if_pos h0, List.getElem?_eq_getElem h]
def gSet {α : Type} (xs : List α) (i : Int) (x : α) : Option (List α) := if 0 ≤ i ∧ i.toNat < xs.length then some (xs.set i.toNat x) else none
theorem Jgf {α : Type} {xs ys : List α} {i : Int} {x : α} (h : gSet xs i x = some ys) : 0 ≤ i ∧ i.toNat < xs.length ∧ ys = xs.set i.toNat x := by
 unfold gSet at h; split at h
 ·cases h; exact ⟨‹_ ∧ _›.1, ‹_ ∧ _›.2, rfl⟩
 ·cases h
theorem Jbo {α : Type} {xs : List α} {i : Int} {x : α} (h0 : 0 ≤ i) (h : i.toNat < xs.length) : gSet xs i x = some (xs.set i.toNat x) := if_pos ⟨h0, h⟩
theorem Jg6 {α : Type} {n : Nat} {xs ys : List α} {i : Int} {x : α} (hn : n = xs.length) (h : gSet xs i x = some ys) : n = ys.length := by
 obtain ⟨_, _, rfl⟩ := Jgf h; rw [List.length_set]; exact hn
def Yw {α : Type} (xs : List α) (l h : Int) : Option (List α) := if 0 ≤ l ∧ l ≤ h ∧ h ≤ xs.length then some ((xs.drop l.toNat).take (h.toNat - l.toNat)) else none
theorem Zg {α : Type} {xs ys : List α} {l h : Int} (e : Yw xs l h = some ys) : 0 ≤ l ∧ l ≤ h ∧ h ≤ xs.length ∧ ys = (xs.drop l.toNat).take (h.toNat - l.toNat) := by
 unfold Yw at e; split at e
 ·cases e; rename_i h; exact ⟨h.1, h.2.1, h.2.2, rfl⟩
 ·cases e
theorem Jhi {α : Type} {xs : List α} {l h : Int} (h0 : 0 ≤ l ∧ l ≤ h ∧ h ≤ xs.length) : Yw xs l h = some ((xs.drop l.toNat).take (h.toNat - l.toNat)) := if_pos h0
theorem Jch {α : Type} {xs : List α} {h : Int} (h0 : 0 ≤ h ∧ h ≤ xs.length) : Yw xs 0 h = some (xs.take h.toNat) := by rw [Jhi ⟨by omega, h0⟩]; simp
theorem Ja2 {α : Type} {xs : List α} {l : Int} (h0 : 0 ≤ l ∧ l ≤ xs.length) : Yw xs l xs.length = some (xs.drop l.toNat) := by
 rw [Jhi ⟨h0.1, h0.2, by omega⟩, List.take_of_length_le (by simp)]
def Zp (s : List UInt8) (i : Int) : Option Int := if 0 ≤ i then (s[i.toNat]?).map fun c => (c.toNat : Int) else none
theorem gOct_some {s : List UInt8} {i c : Int} (h : Zp s i = some c) : 0 ≤ i ∧ i < s.length ∧ c = ((s.getD i.toNat 0).toNat : Nat) := by
 unfold Zp at h; split at h
 ·rename_i h0
  rcases Nat.lt_or_ge i.toNat s.length with h' | h'
  ·rw [List.getElem?_eq_getElem h'] at h
   simp only [Option.map_some, Option.some.injEq] at h
   refine ⟨h0, by omega, ?_⟩
   rw [← h, List.getD_eq_getElem?_getD, List.getElem?_eq_getElem h']; rfl
  ·rw [List.getElem?_eq_none h'] at h; cases h
 ·cases h
theorem Ua {s : List UInt8} {k : Nat} (h : k < s.length) : Zp s (k : Int) = some (s[k].toNat : Int) := by
 unfold Zp; rw [if_pos (by omega), Int.toNat_natCast, List.getElem?_eq_getElem h]; rfl
theorem gOct_ok {s : List UInt8} {i : Int} (h0 : 0 ≤ i) (h : i.toNat < s.length) : Zp s i = some (s[i.toNat].toNat : Int) := by
 unfold Zp; rw [if_pos h0, List.getElem?_eq_getElem h]; rfl
def Jcm (a b : List UInt8) : Option (List UInt8) := if a.length + b.length ≤ 9223372036854775807 then some (a ++ b) else none
theorem gCat_some {a b c : List UInt8} (h : Jcm a b = some c) : c = a ++ b ∧ a.length + b.length ≤ 9223372036854775807 := by
 unfold Jcm at h; split at h
 ·cases h; exact ⟨rfl, ‹_›⟩
 ·cases h
theorem Jdn {a b : List UInt8} (h : a.length + b.length ≤ 9223372036854775807) : Jcm a b = some (a ++ b) := if_pos h
def Xk {α : Type} (by_ : Nat) (xs ys : List α) : Option (List α) := if xs.length + ys.length ≤ 140737488355328 ∧ (xs.length + ys.length) * by_ ≤ 140737488355328 then some (xs ++ ys) else none
theorem Uj {α : Type} {by_ : Nat} {xs ys zs : List α} (h : Xk by_ xs ys = some zs) : zs = xs ++ ys ∧ xs.length + ys.length ≤ 140737488355328 ∧ (xs.length + ys.length) * by_ ≤ 140737488355328 := by
 unfold Xk at h; split at h
 ·cases h; exact ⟨rfl, ‹_›⟩
 ·cases h
theorem Xa {α : Type} {by_ : Nat} {xs ys : List α} (h : xs.length + ys.length ≤ 140737488355328 ∧ (xs.length + ys.length) * by_ ≤ 140737488355328) : Xk by_ xs ys = some (xs ++ ys) := if_pos h
def gApL {α : Type} (by_ : Nat) (xs ys : List α) : Option (List α) := if xs.length + ys.length ≤ 140739635838976 ∧ (xs.length + ys.length) * by_ ≤ 140739635838976 then some (xs ++ ys) else none
theorem gApL_some {α : Type} {by_ : Nat} {xs ys zs : List α} (h : gApL by_ xs ys = some zs) : zs = xs ++ ys ∧ xs.length + ys.length ≤ 140739635838976 ∧ (xs.length + ys.length) * by_ ≤ 140739635838976 := by
 unfold gApL at h; split at h
 ·cases h; exact ⟨rfl, ‹_›⟩
 ·cases h
theorem gApL_ok {α : Type} {by_ : Nat} {xs ys : List α} (h : xs.length + ys.length ≤ 140739635838976 ∧ (xs.length + ys.length) * by_ ≤ 140739635838976) : gApL by_ xs ys = some (xs ++ ys) := if_pos h
def Jv (s : List UInt8) : List Int := s.map fun c => (c.toNat : Int)
def W2 (xs : List Int) : List UInt8 := xs.map fun x => UInt8.ofNat x.toNat
def gMake {α : Type} (by_ : Nat) (n : Int) (z : α) : Option (List α) := if 0 ≤ n ∧ n ≤ 140737488355328 ∧ by_ * n.toNat ≤ 140737488355328 then some (List.replicate n.toNat z) else none
theorem gMake_some {α : Type} {by_ : Nat} {n : Int} {z : α} {zs : List α} (h : gMake by_ n z = some zs) : 0 ≤ n ∧ n ≤ 140737488355328 ∧ by_ * n.toNat ≤ 140737488355328 ∧ zs = List.replicate n.toNat z := by
 unfold gMake at h; split at h
 ·cases h; rename_i h; exact ⟨h.1, h.2.1, h.2.2, rfl⟩
 ·cases h
theorem Jjh {α : Type} {by_ : Nat} {n : Int} {z : α} (h : 0 ≤ n ∧ n ≤ 140737488355328 ∧ by_ * n.toNat ≤ 140737488355328) : gMake by_ n z = some (List.replicate n.toNat z) := if_pos h
def wU8 (x : Int) : Int := x % 256
def wI32 (x : Int) : Int := if 2147483648 ≤ x % 4294967296 then x % 4294967296 - 4294967296 else x % 4294967296
def wI64 (x : Int) : Int := if 9223372036854775808 ≤ x % 18446744073709551616 then x % 18446744073709551616 - 18446744073709551616 else x % 18446744073709551616
def gK (lo hi x : Int) : Option Int := if lo ≤ x ∧ x ≤ hi then some x else none
theorem gK_some {lo hi x y : Int} (h : gK lo hi x = some y) : y = x ∧ lo ≤ x ∧ x ≤ hi := by
 unfold gK at h; split at h
 ·cases h; exact ⟨rfl, ‹_›⟩
 ·cases h
def gShl (x y : Int) : Option Int := if 0 ≤ y ∧ y < 64 then gI (x * 2 ^ y.toNat) else none
theorem gShl_some {x y z : Int} (h : gShl x y = some z) : 0 ≤ y ∧ y < 64 ∧ z = x * 2 ^ y.toNat ∧ -9223372036854775808 ≤ x * 2 ^ y.toNat ∧ x * 2 ^ y.toNat ≤ 9223372036854775807 := by
 unfold gShl at h; split at h
 ·rename_i h0; obtain ⟨h1, h2⟩ := Jem h; exact ⟨h0.1, h0.2, h1, h2⟩
 ·cases h
def gShr (bits : Nat) (x y : Int) : Option Int := if 0 ≤ y then some (x / 2 ^ min y.toNat bits) else none
def bAnd (bits : Nat) (x y : Int) : Int := ((BitVec.ofInt bits x &&& BitVec.ofInt bits y).toNat : Int)
def bOr (bits : Nat) (x y : Int) : Int := ((BitVec.ofInt bits x ||| BitVec.ofInt bits y).toNat : Int)
def gIx (n : Nat) (i : Int) : Option Nat := if 0 ≤ i ∧ i < n then some i.toNat else none
theorem gIx_some {n k : Nat} {i : Int} (h : gIx n i = some k) : 0 ≤ i ∧ i < n ∧ k = i.toNat := by
 unfold gIx at h; split at h
 ·cases h; rename_i h; exact ⟨h.1, h.2, rfl⟩
 ·cases h
theorem gIx_lt {n k : Nat} {i : Int} (h : gIx n i = some k) : k < n := by
 obtain ⟨h0, h1, rfl⟩ := gIx_some h; omega
theorem gIx_nat {n k : Nat} (h : k < n) : gIx n (k : Int) = some k := by unfold gIx; rw [if_pos (by omega)]; rfl
def setA {α : Type} (v : Nat → α) (i : Nat) (x : α) (j : Nat) : α := if j = i then x else v j
end Go.Md

namespace Go.Md
open Go
end Go.Md

namespace Go.Md
def gNx (s : List UInt8) (k : Nat) : Option Int := match s[k]? with | some c => if c.toNat < 128 then some (c.toNat : Int) else none | none => none
theorem gNx_some {s : List UInt8} {k : Nat} {c : Int} (h : gNx s k = some c) : ∃ hk : k < s.length, (s[k]).toNat < 128 ∧ c = ((s[k]).toNat : Nat) := by
 unfold gNx at h; split at h
 ·rename_i u hu
  obtain ⟨hk, rfl⟩ := List.getElem?_eq_some_iff.1 hu
  split at h
  ·rename_i h2; cases h; exact ⟨hk, h2, rfl⟩
  ·cases h
 ·cases h
end Go.Md

namespace Go.Md
def cpyL {α : Type} (xs : List α) (a : Int) (m : Nat) (ys : List α) : List α := xs.take a.toNat ++ (ys.take m ++ xs.drop (a.toNat + min m ys.length))
theorem Jjq {α : Type} {xs ys : List α} {a : Int} {m : Nat} (h : a.toNat + m ≤ xs.length) : (cpyL xs a m ys).length = xs.length := by
 unfold cpyL
 simp only [List.length_append, List.length_take, List.length_drop]; omega
theorem cpyL_n {α : Type} {n : Nat} {xs ts ys : List α} {a q : Int} (hn : n = xs.length) (h : Yw xs a q = some ts) : n = (cpyL xs a ts.length ys).length := by
 obtain ⟨h0, h1, h2, rfl⟩ := Zg h
 rw [Jjq]
 ·exact hn
 ·rw [List.length_take, List.length_drop]; omega
def gFn {μ : Type} (m : Option μ) : Option μ := m
theorem gFn_some {μ : Type} {m : Option μ} {g : μ} (h : gFn m = some g) : m = some g := h
end Go.Md

namespace Go.Md
def gBld (a s : List UInt8) : Option (List UInt8) := if s ≠ [] ∧ a.length + s.length ≤ 140737488355328 then some (a ++ s) else none
theorem gBld_some {a s r : List UInt8} (h : gBld a s = some r) : r = a ++ s ∧ s ≠ [] ∧ a.length + s.length ≤ 140737488355328 := by
 unfold gBld at h; split at h
 ·cases h; rename_i h; exact ⟨rfl, h⟩
 ·cases h
theorem Jfw {a s : List UInt8} (h : s ≠ [] ∧ a.length + s.length ≤ 140737488355328) : gBld a s = some (a ++ s) := if_pos h
end Go.Md

namespace Go.Md
def ixB : List UInt8 → UInt8 → Int
 | [], _ => -1
 | b :: l, c => if b = c then 0 else if ixB l c = -1 then -1 else ixB l c + 1
def gIxB (s : List UInt8) (c : Int) : Option Int := some (ixB s c.toNat.toUInt8)
def gCnB (s : List UInt8) (c : Int) : Option Int := some (s.count c.toNat.toUInt8 : Nat)
def U1 (u : Nat) : List UInt8 :=
 if u < 10 then [UInt8.ofNat (48 + u)] else U1 (u / 10) ++ [UInt8.ofNat (48 + u % 10)]
termination_by u
decreasing_by omega
def X2 (n : Int) : List UInt8 := if n < 0 then 45 :: U1 n.natAbs else U1 n.toNat
def Uq (n : Int) : Option (List UInt8) := if -9223372036854775808 ≤ n ∧ n ≤ 9223372036854775807 then some (X2 n) else none
def digV (b : UInt8) : Option Nat := if 48 ≤ b.toNat ∧ b.toNat ≤ 57 then some (b.toNat - 48) else none
def decF (acc : Nat) : List UInt8 → Option Nat
 | [] => some acc
 | b :: r => match digV b with
  | some d => decF (acc * 10 + d) r
  | none => none
def decN (l : List UInt8) : Option Nat := if l.isEmpty then none else decF 0 l
def atoiL : List UInt8 → Option Int
 | [] => none
 | b :: r =>
  if b == 45 then (decN r).map fun (m : Nat) => -(m : Int)
  else if b == 43 then (decN r).map fun (m : Nat) => (m : Int)
  else (decN (b :: r)).map fun (m : Nat) => (m : Int)
def gAtoi (s : List UInt8) : Option Int := if s.length ≤ 18 then atoiL s else none
def gRep (s : List UInt8) (n : Int) : Option (List UInt8) := if 0 ≤ n ∧ n ≤ 9223372036854775807 ∧ s.length * n.toNat ≤ 140737488355328 then some (List.replicate n.toNat s).flatten else none
def Jgq (l : List (List UInt8)) (sep : List UInt8) : Option (List UInt8) := if l.length ≤ 140737488355328 ∧ (sep.intercalate l).length ≤ 140737488355328 then some (sep.intercalate l) else none
end Go.Md

namespace Go.Md
def gApN {α : Type} (by_ : Nat) (xs ys : List α) : Option (List α) := if ys.length ≠ 0 ∧ xs.length + ys.length ≤ 140739635838976 ∧ (xs.length + ys.length) * by_ ≤ 140739635838976 then some (xs ++ ys) else none
theorem gApN_some {α : Type} {by_ : Nat} {xs ys zs : List α} (h : gApN by_ xs ys = some zs) : zs = xs ++ ys ∧ ys ≠ [] ∧ xs.length + ys.length ≤ 140739635838976 ∧ (xs.length + ys.length) * by_ ≤ 140739635838976 := by
 unfold gApN at h; split at h
 ·rename_i hh; cases h; exact ⟨rfl, fun e => hh.1 (by rw [e]; rfl), hh.2⟩
 ·cases h
theorem gApN_ok {α : Type} {by_ : Nat} {xs ys : List α} (h : ys.length ≠ 0 ∧ xs.length + ys.length ≤ 140739635838976 ∧ (xs.length + ys.length) * by_ ≤ 140739635838976) : gApN by_ xs ys = some (xs ++ ys) := if_pos h
def gByt (s : List UInt8) : Option (List Int) := if s.length ≤ 9223372036854775807 then some (Jv s) else none
theorem gByt_some {s : List UInt8} {r : List Int} (h : gByt s = some r) : r = Jv s ∧ s.length ≤ 9223372036854775807 := by
 unfold gByt at h; split at h
 ·cases h; exact ⟨rfl, by assumption⟩
 ·cases h
theorem gByt_ok {s : List UInt8} (h : s.length ≤ 9223372036854775807) : gByt s = some (Jv s) := if_pos h
end Go.Md

namespace Go.Md
section
variable {κ ν : Type} [DecidableEq κ]
def Jeq (xs : List (κ × ν)) (k : κ) : Option ν := (xs.find? fun p => decide (p.1 = k)).map (·.2)
def mHas (xs : List (κ × ν)) (k : κ) : Bool := xs.any fun p => decide (p.1 = k)
def Jdf (xs : List (κ × ν)) (k : κ) (v : ν) : List (κ × ν) := if mHas xs k then xs.map (fun p => if p.1 = k then (k, v) else p) else xs ++ [(k, v)]
end
structure Pick {α : Type} (l : List α) (p : α) (l' : List α) : Prop where
 out : ∃ i, l[i]? = some p ∧ l' = l.eraseIdx i
theorem Pick.len {α : Type} {l l' : List α} {p : α} (h : Pick l p l') : l'.length + 1 = l.length := by
 obtain ⟨i, h1, rfl⟩ := h.out
 have hi : i < l.length := by
  rcases Nat.lt_or_ge i l.length with h | h
  ·exact h
  ·rw [List.getElem?_eq_none h] at h1; cases h1
 rw [List.length_eraseIdx_of_lt hi]; omega
def gBldB (a : List UInt8) (c : Int) : Option (List UInt8) := if 0 ≤ c ∧ c ≤ 255 ∧ a.length + 1 ≤ 140737488355328 then some (a ++ [UInt8.ofNat c.toNat]) else none
theorem gBldB_some {a r : List UInt8} {c : Int} (h : gBldB a c = some r) : r = a ++ [UInt8.ofNat c.toNat] ∧ 0 ≤ c ∧ c ≤ 255 ∧ a.length + 1 ≤ 140737488355328 := by
 unfold gBldB at h; split at h
 ·cases h; exact ⟨rfl, ‹_›⟩
 ·cases h
theorem gBldB_ok {a : List UInt8} {c : Int} (h : 0 ≤ c ∧ c ≤ 255 ∧ a.length + 1 ≤ 140737488355328) : gBldB a c = some (a ++ [UInt8.ofNat c.toNat]) := if_pos h
theorem ofStr_snoc (a : List UInt8) {c : Int} (h0 : 0 ≤ c) (h1 : c ≤ 255) : Jv (a ++ [UInt8.ofNat c.toNat]) = Jv a ++ [c] := by
 unfold Jv
 rw [List.map_append]
 have : ((UInt8.ofNat c.toNat).toNat : Int) = c := by
  rw [UInt8.toNat_ofNat']; omega
 rw [List.map_cons, List.map_nil, this]
end Go.Md

namespace Go.Md
structure CmpOk {α : Type} (cmp : α → α → Option Int) : Prop where
 tot : ∀ x y, ∃ v, cmp x y = some v
 flip : ∀ x y, (cmp x y).getD 0 < 0 ↔ 0 < (cmp y x).getD 0
 trans : ∀ x y z, (cmp x y).getD 0 ≤ 0 → (cmp y z).getD 0 ≤ 0 → (cmp x z).getD 0 ≤ 0
 anti : ∀ x y, (cmp x y).getD 0 = 0 → x = y
def leC {α : Type} (cmp : α → α → Option Int) (x y : α) : Bool := decide ((cmp x y).getD 0 ≤ 0)
open Classical in
noncomputable def Jg8 {α : Type} (l : List α) (cmp : α → α → Option Int) : Option (List α) := if l.length < 4611686018427387904 ∧ CmpOk cmp then some (l.mergeSort (leC cmp)) else none
theorem Jgs {α : Type} {le : α → α → Bool} (anti : ∀ x y, le x y = true → le y x = true → x = y) : ∀ {a b : List α}, a.Perm b → a.Pairwise (fun x y => le x y = true) → b.Pairwise (fun x y => le x y = true) → (∀ x, le x x = true) → a = b
 | [], b, p, _, _, _ => (List.nil_perm.1 p).symm
 | x :: a, [], p, _, _, _ => by have := p.length_eq; simp at this
 | x :: a, y :: b, p, ha, hb, hr => by
  have hxy : x = y := by
   have h1 : x ∈ y :: b := p.mem_iff.1 (by simp)
   have h2 : y ∈ x :: a := p.mem_iff.2 (by simp)
   refine anti x y ?_ ?_
   ·rcases List.mem_cons.1 h2 with h | h
    ·rw [h]; exact hr x
    ·exact (List.pairwise_cons.1 ha).1 y h
   ·rcases List.mem_cons.1 h1 with h | h
    ·rw [h]; exact hr y
    ·exact (List.pairwise_cons.1 hb).1 x h
  subst hxy
  rw [Jgs anti ((List.perm_cons x).1 p) (List.pairwise_cons.1 ha).2 (List.pairwise_cons.1 hb).2 hr]
section
variable {α : Type} {cmp : α → α → Option Int}
theorem CmpOk.refl (c : CmpOk cmp) (x : α) : leC cmp x x = true := by
 have := c.flip x x
 unfold leC; simp; omega
theorem CmpOk.total (c : CmpOk cmp) (x y : α) : (leC cmp x y || leC cmp y x) = true := by
 have := c.flip x y
 have h2 := c.flip y x
 unfold leC; simp; omega
theorem CmpOk.antisymm (c : CmpOk cmp) (x y : α) (h1 : leC cmp x y = true) (h2 : leC cmp y x = true) : x = y := by
 have f1 := c.flip x y
 have f2 := c.flip y x
 unfold leC at h1 h2
 simp at h1 h2
 exact c.anti x y (by omega)
theorem CmpOk.letrans (c : CmpOk cmp) (x y z : α) (h1 : leC cmp x y = true) (h2 : leC cmp y z = true) : leC cmp x z = true := by
 unfold leC at *
 simp at *
 exact c.trans x y z h1 h2
theorem sortF_is (c : CmpOk cmp) {l d : List α} (p : d.Perm l) (h : d.Pairwise fun x y => leC cmp x y = true) : d = l.mergeSort (leC cmp) :=
 Jgs c.antisymm (p.trans (List.mergeSort_perm l _).symm) h (List.pairwise_mergeSort (le := leC cmp) c.letrans c.total l) c.refl
end
end Go.Md

namespace Go.Md
end Go.Md

namespace Go.Md
structure CmpPre {α : Type} (cmp : α → α → Option Int) : Prop where
 tot : ∀ x y, ∃ v, cmp x y = some v
 flip : ∀ x y, (cmp x y).getD 0 < 0 ↔ 0 < (cmp y x).getD 0
 trans : ∀ x y z, (cmp x y).getD 0 ≤ 0 → (cmp y z).getD 0 ≤ 0 → (cmp x z).getD 0 ≤ 0
section
variable {α : Type} {cmp : α → α → Option Int}
end
end Go.Md

namespace Go.Md
structure SortOf {α : Type} (cmp : α → α → Option Int) (l d : List α) : Prop where
 perm : d.Perm l
 sorted : d.Pairwise fun x y => leC cmp x y = true
section
variable {α ρ : Type} {cmp : α → α → Option Int} {l : List α} {k : List α → Option ρ} {r : ρ}
end
end Go.Md

namespace Go.M
open Go.Md
noncomputable section
set_option maxRecDepth 100000
structure Td where
 Num : Int
 Den : Int
instance : Inhabited Td := ⟨⟨0, 0⟩⟩
mutual
structure Ta where
 Tag : Int
 Value : Tc
structure Tc where
 kah : Int
 kai : (List UInt8)
 kaj : (List Int)
 kag : (List Td)
 kaf : (List Ta)
end
instance : Inhabited Ta := ⟨⟨0, ⟨0, [], [], [], []⟩⟩⟩
instance : Inhabited Tc := ⟨⟨0, [], [], [], []⟩⟩
structure Tg where
 Big : Bool
 kal : (List (List Ta))
instance : Inhabited Tg := ⟨⟨false, []⟩⟩
structure Te where
 From : Int
 To : Int
instance : Inhabited Te := ⟨⟨0, 0⟩⟩
structure Tb where
 s_ : (List UInt8)
 kab : Bool
 kaa : (List Te)
 kae : (List (Int × Bool))
 kad : Int
 kac : Nat
 no_ : Int
instance : Inhabited Tb := ⟨⟨[], false, [], [], 0, 0, 0⟩⟩
structure Tf where
 kab : Bool
 kak : (List Int)
instance : Inhabited Tf := ⟨⟨false, []⟩⟩
def Jb6 (x y : Td) : Bool := decide (x.Num = y.Num ∧ x.Den = y.Den)
def Jhb (a0 : (List Int)) (a1 : Int) : Option (Unit) :=
 some ()
def mft77 : Nat → (Option ((List Int) → Int → Option (Unit)))
 | 0 => some Jhb
 | _ => none
def Wr (a0 : Int) (a1 : Int) (a2 : Int) : Option (Bool) :=
 J6 (decide (a0 < a1)) (some true) (some (decide (a2 < a0)))
def U9 (a0 : Int) (x4 : Bool) : Option (Int) :=
 J6 x4 (some 1) (J6 (decide (a0 = 3)) (some 2) (J6 (decide (a0 = 4)) (J6 (decide (a0 = 4)) (some 4) (J6 (decide (a0 = 5)) (some 8) (some 0))) (J6 (decide (a0 = 9)) (some 4) (J6 (decide (a0 = 5)) (some 8) (some 0)))))
def Zr (a0 : Int) : Option (Int) :=
 J6 (decide (a0 = 1)) (U9 a0 (decide (a0 = 1))) (J6 (decide (a0 = 2)) (U9 a0 (decide (a0 = 2))) (J6 (decide (a0 = 7)) (U9 a0 (decide (a0 = 7))) (U9 a0 (decide (a0 = 13)))))
def Jfi (a0 : Int) : Option (Bool) :=
 J6 (decide (a0 = 1)) (some true) (J6 (decide (a0 = 3)) (some true) (J6 (decide (a0 = 4)) (some true) (some (decide (a0 = 9)))))
def Jbr (a0 : Int) : Option (Bool) :=
 J6 (decide (a0 = 2)) (some true) (some (decide (a0 = 7)))
def V2 (a0 : Tc) (x8_3 : Bool) : Option (Int) :=
 J6 x8_3 (J6 x8_3 (some 1) (some 0)) (J6 (decide (a0.kah ≠ 13)) (J6 (decide (0 < (a0.kaf.length : Int))) (some 1) (some 0)) (some 0))
def V4 (a0 : Tc) (x8_2 : Bool) : Option (Int) :=
 J6 x8_2 (J6 x8_2 (some 1) (some 0)) (J6 (decide (a0.kah ≠ 5)) (V2 a0 (decide (0 < (a0.kag.length : Int)))) (V2 a0 false))
def Vy (a0 : Tc) (x8 : Bool) : Option (Int) :=
 J6 x8 (J6 x8 (some 1) (some 0)) (Jo (Jbr a0.kah) fun t21 =>
 J6 (!t21) (V4 a0 (decide (a0.kai ≠ []))) (V4 a0 false))
def Wa (a0 : Tc) : Option (Int) :=
 Jo (Zr a0.kah) fun t6 =>
 J6 (decide (t6 = 0)) (some 10) (Jo (Jfi a0.kah) fun t11 =>
 J6 (!t11) (Vy a0 (decide (0 < (a0.kaj.length : Int)))) (Vy a0 false))
def Jfv (a0 : Int) : Option (Int × Int) :=
 J6 (decide (a0 = 1)) (some (0, 255)) (J6 (decide (a0 = 3)) (some (0, 65535)) (J6 (decide (a0 = 9)) (some ((-2147483648), 2147483647)) (some (0, 4294967295))))
def Yt (a0 : Tc) (next3 : ((Int) → Option (Int))) (x56_2 : Int) : Option (Int) :=
 J6 (decide (x56_2 < (a0.kai.length : Int))) (Jo (Zp a0.kai x56_2) fun t62 =>
 J6 (decide (t62 = 0)) (some 9) (Jo (gI (x56_2 + 1)) fun t64 =>
 next3 t64)) (some 0)
def Wn (a0 : Tc) : Option (Int) :=
 J6 (decide (a0.kah = 2)) (Z8 (fun next3 s => Yt a0 next3 s) 0) (some 0)
def X6 (a0 : Tc) (next4 : ((Int) → Option (Int))) (x37_2 : Int) : Option (Int) :=
 J6 (decide (x37_2 < (a0.kag.length : Int))) (Jo (Vh a0.kag x37_2) fun t39 =>
 Jo (Wr t39.Num 0 4294967295) fun t43 =>
 J6 t43 (some 2) (Jo (Wr t39.Den 0 4294967295) fun t47 =>
 J6 t47 (some 2) (Jo (gI (x37_2 + 1)) fun t49 =>
 next4 t49))) (Wn a0)
def Wf (a0 : Tc) : Option (Int) :=
 Z8 (fun next4 s => X6 a0 next4 s) 0
def X9 (a0 : Tc) (t19 : (Int × Int)) (next5 : ((Int) → Option (Int))) (x25_2 : Int) : Option (Int) :=
 J6 (decide (x25_2 < (a0.kaj.length : Int))) (Jo (Vh a0.kaj x25_2) fun t27 =>
 Jo (Wr t27 t19.1 t19.2) fun t32 =>
 J6 t32 (some 2) (Jo (gI (x25_2 + 1)) fun t33 =>
 next5 t33)) (Wf a0)
def Jan (a0 : Tc) : Option (Int) :=
 Jo (Wa a0) fun t12 =>
 J6 (decide (t12 ≠ 0)) (some t12) (Jo (Jfv a0.kah) fun t19 =>
 Z8 (fun next5 s => X9 a0 t19 next5 s) 0)
def Wc (x17_2 : Int) (next1 : ((Int) → Option (Int))) (x7 : Int) : Option (Int) :=
 J6 (decide (x7 ≠ 0)) (some x7) (Jo (gI (x17_2 + 1)) fun t61 =>
 next1 t61)
def Jbn (a1 : Int) (self : ((List Ta) × Int) → Option (Int)) (x17_2 : Int) (next1 : ((Int) → Option (Int))) (t20 : Ta) : Option (Int) :=
 J6 (decide (t20.Value.kah ≠ 13)) (Jo (Jan t20.Value) fun t46 =>
 Wc x17_2 next1 t46) (Jo (Wa t20.Value) fun t49 =>
 J6 (decide (t49 = 0)) (Jo (gI (a1 + 1)) fun t56 =>
 Jo (self (t20.Value.kaf, t56)) fun t57 =>
 Wc x17_2 next1 t57) (Wc x17_2 next1 t49))
def U4 (a0 : (List Ta)) (a1 : Int) (self : ((List Ta) × Int) → Option (Int)) (next1 : ((Int) → Option (Int))) (x17_2 : Int) : Option (Int) :=
 J6 (decide (x17_2 < (a0.length : Int))) (Jo (Vh a0 x17_2) fun t20 =>
 Jo (Wr t20.Tag 0 65535) fun t25 =>
 J6 t25 (some 2) (J6 (decide (0 < x17_2)) (Jo (gI (x17_2 - 1)) fun t34 =>
 Jo (Vh a0 t34) fun t35 =>
 J6 (decide (t20.Tag ≤ t35.Tag)) (some 5) (Jbn a1 self x17_2 next1 t20)) (Jbn a1 self x17_2 next1 t20))) (some 0)
def Yv (self : ((List Ta) × Int) → Option (Int)) (a0 : (List Ta)) (a1 : Int) : Option (Int) :=
 J6 (decide (5 < a1)) (some 4) (J6 (decide (200 < (a0.length : Int))) (some 4) (Z8 (fun next1 s => U4 a0 a1 self next1 s) 0))
def Jcb (a0 : (List Ta)) (a1 : Int) : Option (Int) :=
 Z8 (fun (self : ((List Ta) × Int) → Option (Int)) (s : (List Ta) × Int) => Yv self s.1 s.2) (a0, a1)
def Jeb (a0 : Int) : Option (Int) :=
 Jo (gRem a0 2) fun t5 =>
 Jo (gI (a0 + t5)) fun t6 =>
 some t6
def Zf (a0 : Tc) : Option (Int) :=
 J6 (decide (a0.kah = 2)) (Jo (gI ((a0.kai.length : Int) + 1)) fun t10 =>
 some t10) (J6 (decide (a0.kah = 7)) (some (a0.kai.length : Int)) (J6 (decide (a0.kah = 5)) (some (a0.kag.length : Int)) (J6 (decide (a0.kah = 13)) (some 1) (some (a0.kaj.length : Int)))))
def Uw (a0 : Tc) : Option (Int) :=
 Jo (Zf a0) fun t4 =>
 Jo (Zr a0.kah) fun t7 =>
 Jo (gI (t4 * t7)) fun t8 =>
 some t8
def U8 (x17_2 : Int) (next1 : ((Int × Int) → Option (Int))) (x1_3 : Int) : Option (Int) :=
 Jo (gI (x17_2 + 1)) fun t42 =>
 next1 (x1_3, t42)
def Vq (a0 : (List Ta)) (self : ((List Ta) × Int) → Option (Int)) (next1 : ((Int × Int) → Option (Int))) (x1_2 : Int) (x17_2 : Int) : Option (Int) :=
 J6 (decide (x17_2 < (a0.length : Int))) (Jo (Vh a0 x17_2) fun t19 =>
 J6 (decide (t19.Value.kah = 13)) (Jo (self (t19.Value.kaf, x1_2)) fun t30 =>
 U8 x17_2 next1 t30) (Jo (Uw t19.Value) fun t34 =>
 J6 (decide (4 < t34)) (Jo (Jeb x1_2) fun t37 =>
 Jo (Uw t19.Value) fun t40 =>
 Jo (gI (t37 + t40)) fun t41 =>
 U8 x17_2 next1 t41) (U8 x17_2 next1 x1_2))) (some x1_2)
def Zl (self : ((List Ta) × Int) → Option (Int)) (a0 : (List Ta)) (a1 : Int) : Option (Int) :=
 Jo (Jeb a1) fun t8 =>
 Jo (gI (t8 + 2)) fun t9 =>
 Jo (gI (12 * (a0.length : Int))) fun t12 =>
 Jo (gI (t9 + t12)) fun t13 =>
 Jo (gI (t13 + 4)) fun t14 =>
 Z8 (fun next1 s => Vq a0 self next1 s.1 s.2) (t14, 0)
def Jfe (a0 : (List Ta)) (a1 : Int) : Option (Int) :=
 Z8 (fun (self : ((List Ta) × Int) → Option (Int)) (s : (List Ta) × Int) => Zl self s.1 s.2) (a0, a1)
def Um (a0 : Tg) (next1 : ((Int × Int) → Option (Int))) (x3_2 : Int) (x9_2 : Int) : Option (Int) :=
 J6 (decide (x9_2 < (a0.kal.length : Int))) (Jo (Vh a0.kal x9_2) fun t11 =>
 Jo (Jfe t11 x3_2) fun t15 =>
 Jo (gI (x9_2 + 1)) fun t16 =>
 next1 (t15, t16)) (some x3_2)
def Jf7 (a0 : Tg) : Option (Int) :=
 Z8 (fun next1 s => Um a0 next1 s.1 s.2) (8, 0)
def Jfk (a0 : Tg) : Option (Int) :=
 Jo (Jf7 a0) fun t24 =>
 J6 (decide (65000 < t24)) (some 4) (some 0)
def Wk (a0 : Tg) (next2 : ((Int) → Option (Int))) (x13_2 : Int) : Option (Int) :=
 J6 (decide (x13_2 < (a0.kal.length : Int))) (Jo (Vh a0.kal x13_2) fun t15 =>
 Jo (Jcb t15 1) fun t18 =>
 J6 (decide (t18 ≠ 0)) (some t18) (Jo (gI (x13_2 + 1)) fun t22 =>
 next2 t22)) (Jfk a0)
def Vt (a0 : Tg) : Option (Int) :=
 J6 (decide (20 < (a0.kal.length : Int))) (some 4) (Z8 (fun next2 s => Wk a0 next2 s) 0)
def Jcd (a0 : Tc) : Option (Int) :=
 J6 (decide (a0.kah ≠ 13)) (Jo (Jan a0) fun t8 =>
 some t8) (Jo (Wa a0) fun t10 =>
 J6 (decide (t10 ≠ 0)) (some t10) (Jo (Jcb a0.kaf 1) fun t16 =>
 some t16))
def Yk (a0 : (List Int)) : Option ((List Int)) :=
 Jo (Xk 8 ([] : List Int) a0) fun l7 =>
 some l7
def Ze (a0 : (List Td)) : Option ((List Td)) :=
 Jo (Xk 16 ([] : List Td) a0) fun l7 =>
 some l7
def Xm (a0 : (List UInt8)) (a1 : Int) : Option (Int) :=
 Jo (gIxB a0 a1) fun t7 =>
 some t7
def Yd (a0 : (List UInt8)) (a1 : (List UInt8)) : Option (Int) :=
 J6 (decide ((a1.length : Int) = 0)) (some 0) (J6 (decide (a1 = a0)) (some 0) (J6 (decide ((a1.length : Int) = 1)) (Jo (Zp a1 0) fun t29 =>
 Jo (Xm a0 t29) fun t30 =>
 some t30) (J6 (decide ((a0.length : Int) ≤ (a1.length : Int))) (some (-1)) (none))))
def Wx (a0 : (List UInt8)) (a1 : (List UInt8)) : Option ((List UInt8) × (List UInt8) × Bool) :=
 Jo (Yd a0 a1) fun t10 =>
 J6 (decide (0 ≤ t10)) (Jo (Yw a0 0 t10) fun t15 =>
 Jo (gI (t10 + (a1.length : Int))) fun t20 =>
 Jo (Yw a0 t20 a0.length) fun t21 =>
 some (t15, t21, true)) (some (a0, [], false))
def Zx (a0 : (List UInt8)) (a1 : (List UInt8)) : Option ((List UInt8) × (List UInt8) × Bool) :=
 Jo (Wx a0 a1) fun t9 =>
 some (t9.1, t9.2.1, t9.2.2)
def Q6 (a0 : (List UInt8)) (a1 : (List UInt8)) : Option (Bool) :=
 J6 (decide ((a1.length : Int) ≤ (a0.length : Int))) (Jo (Yw a0 0 (a1.length : Int)) fun t14 =>
 some (decide (t14 = a1))) (some false)
def Zs (a0 : (List UInt8)) (a1 : (List UInt8)) : Option ((List UInt8) × Bool) :=
 Jo (Q6 a0 a1) fun t8 =>
 J6 (!t8) (some (a0, false)) (Jo (Yw a0 (a1.length : Int) a0.length) fun t14 =>
 some (t14, true))
def Jak (a0 : (List UInt8)) (a1 : (List UInt8)) : Option ((List UInt8) × Bool) :=
 Jo (Zs a0 a1) fun t8 =>
 some (t8.1, t8.2)
def Zo (a0 : (List UInt8)) (a1 : (List UInt8)) : Option ((List UInt8)) :=
 Jo (Q6 a0 a1) fun t7 =>
 J6 t7 (Jo (Yw a0 (a1.length : Int) a0.length) fun t11 =>
 some t11) (some a0)
def U0 (a0 : (List UInt8)) (a1 : (List UInt8)) : Option ((List UInt8)) :=
 Jo (Zo a0 a1) fun t7 =>
 some t7
def W9 (a1 : Int) (next1 : (((List UInt8)) → Option ((List UInt8)))) (x0_2 : (List UInt8)) : Option ((List UInt8)) :=
 J6 (decide (0 < (x0_2.length : Int))) (Jo (Zp x0_2 0) fun t10 =>
 J6 (decide (t10 = a1)) (Jo (Yw x0_2 1 x0_2.length) fun t15 =>
 next1 t15) (some x0_2)) (some x0_2)
def We (a0 : (List UInt8)) (a1 : Int) : Option ((List UInt8)) :=
 Z8 (fun next1 s => W9 a1 next1 s) a0
def W0 (a1 : Int) (next1 : (((List UInt8)) → Option ((List UInt8)))) (x0_2 : (List UInt8)) : Option ((List UInt8)) :=
 J6 (decide (0 < (x0_2.length : Int))) (Jo (gI ((x0_2.length : Int) - 1)) fun t12 =>
 Jo (Zp x0_2 t12) fun t13 =>
 J6 (decide (t13 = a1)) (Jo (gI ((x0_2.length : Int) - 1)) fun t20 =>
 Jo (Yw x0_2 0 t20) fun t21 =>
 next1 t21) (some x0_2)) (some x0_2)
def V7 (a0 : (List UInt8)) (a1 : Int) : Option ((List UInt8)) :=
 Z8 (fun next1 s => W0 a1 next1 s) a0
def Jbx (m : (Nat → Bool)) : Option ((Nat → Bool) × Bool) :=
 some (m, true)
def Xb (a0 : (List UInt8)) (next2 : ((Int × (Nat → Bool)) → Option ((Nat → Bool) × Bool))) (x4_2 : Int) (m_3 : (Nat → Bool)) : Option ((Nat → Bool) × Bool) :=
 J6 (decide (x4_2 < (a0.length : Int))) (Jo (Zp a0 x4_2) fun t14 =>
 J6 (decide (128 ≤ t14)) (some (m_3, false)) (Jo (gIx 256 t14) fun k19 =>
 Jo (gI (x4_2 + 1)) fun t11 =>
 next2 (t11, (setA m_3 k19 true)))) (Jbx m_3)
def Wt (a0 : (List UInt8)) : Option ((Nat → Bool) × Bool) :=
 Z8 (fun next2 s => Xb a0 next2 s.1 s.2) (0, (fun _ => false))
def Yr (a0 : (Nat → Bool)) (a1 : Int) : Option (Bool × (Nat → Bool)) :=
 Jo (gIx 256 a1) fun k8 =>
 some ((a0 k8), a0)
def Yy (next1 : (((List UInt8) × (Nat → Bool)) → Option ((List UInt8) × (Nat → Bool)))) (x0_2 : (List UInt8)) (m_2 : (Nat → Bool)) : Option ((List UInt8) × (Nat → Bool)) :=
 J6 (decide (0 < (x0_2.length : Int))) (Jo (Zp x0_2 0) fun t10 =>
 Jo (Yr m_2 t10) fun t11 =>
 J6 (!t11.1) (some (x0_2, t11.2)) (Jo (Yw x0_2 1 x0_2.length) fun t14 =>
 next1 (t14, t11.2))) (some (x0_2, m_2))
def V8 (a0 : (List UInt8)) (a1 : (Nat → Bool)) : Option ((List UInt8) × (Nat → Bool)) :=
 Z8 (fun next1 s => Yy next1 s.1 s.2) (a0, a1)
def Yp (next1 : (((List UInt8) × (Nat → Bool)) → Option ((List UInt8) × (Nat → Bool)))) (x0_2 : (List UInt8)) (m_2 : (Nat → Bool)) : Option ((List UInt8) × (Nat → Bool)) :=
 J6 (decide (0 < (x0_2.length : Int))) (Jo (gI ((x0_2.length : Int) - 1)) fun t12 =>
 Jo (Zp x0_2 t12) fun t13 =>
 Jo (Yr m_2 t13) fun t14 =>
 J6 (!t14.1) (some (x0_2, t14.2)) (Jo (gI ((x0_2.length : Int) - 1)) fun t19 =>
 Jo (Yw x0_2 0 t19) fun t20 =>
 next1 (t20, t14.2))) (some (x0_2, m_2))
def Vi (a0 : (List UInt8)) (a1 : (Nat → Bool)) : Option ((List UInt8) × (Nat → Bool)) :=
 Z8 (fun next1 s => Yp next1 s.1 s.2) (a0, a1)
def Vs (a0 : (List UInt8)) : Option (Int × Int) :=
 J6 (decide ((a0.length : Int) < 1)) (some (65533, 0)) (none)
def Y6 (a0 : (List UInt8)) (x10 : Bool) : Option (Int × Int) :=
 J6 x10 (Jo (Zp a0 0) fun t12 =>
 Jo (gK (-2147483648) 2147483647 t12) fun t13 =>
 some (t13, 1)) (Jo (Vs a0) fun t16 =>
 some (t16.1, t16.2))
def Yc (a0 : (List UInt8)) : Option (Int × Int) :=
 J6 (decide (a0 ≠ [])) (Jo (Zp a0 0) fun t8 =>
 Y6 a0 (decide (t8 < 128))) (Y6 a0 false)
def Qd (a0 : (List UInt8)) (a1 : Int) : Option (Int) :=
 Jo (Xm a0 a1) fun t7 =>
 some t7
def V9 (a0 : Int) (x3 : Bool) : Option (Bool) :=
 J6 x3 (some true) (J6 (decide (57343 < a0)) (J6 (decide (a0 ≤ 1114111)) (some true) (some false)) (some false))
def Jck (a0 : Int) : Option (Bool) :=
 J6 (decide (0 ≤ a0)) (V9 a0 (decide (a0 < 55296))) (V9 a0 false)
def Jas (a0 : (List UInt8)) (next2 : ((Nat) → Option (Int))) (k_2 : Nat) : Option (Int) :=
 J6 (decide (k_2 < a0.length)) (Jo (gNx a0 k_2) fun t176 =>
 J6 (decide (t176 = 65533)) (some ((k_2 : Nat) : Int)) (next2 (k_2 + 1))) (some (-1))
def Jaw (a0 : (List UInt8)) (a1 : Int) (x160 : Bool) : Option (Int) :=
 J6 x160 (Jo (Qd a0 (wU8 a1)) fun t170 =>
 some t170) (J6 (decide (a1 = 65533)) (Z8 (fun next2 s => Jas a0 next2 s) 0) (Jo (Jck a1) fun t185 =>
 J6 (!t185) (some (-1)) (none)))
def Jed (a0 : (List UInt8)) (a1 : Int) : Option (Int) :=
 J6 (decide (0 ≤ a1)) (Jaw a0 a1 (decide (a1 < 128))) (Jaw a0 a1 false)
def Jap (a0 : (List UInt8)) (a1 : Int) : Option (Bool) :=
 Jo (Jed a0 a1) fun t7 =>
 some (decide (0 ≤ t7))
def V3 (a1 : (List UInt8)) (next1 : (((List UInt8)) → Option ((List UInt8)))) (x0_2 : (List UInt8)) : Option ((List UInt8)) :=
 J6 (decide (0 < (x0_2.length : Int))) (Jo (Yc x0_2) fun t12 =>
 Jo (Jap a1 t12.1) fun t17 =>
 J6 (!t17) (some x0_2) (Jo (Yw x0_2 t12.2 x0_2.length) fun t21 =>
 next1 t21)) (some x0_2)
def Jbz (a0 : (List UInt8)) (a1 : (List UInt8)) : Option ((List UInt8)) :=
 Z8 (fun next1 s => V3 a1 next1 s) a0
def Jcl (a0 : Int) : Option (Bool) :=
 some (decide ((wU8 (bAnd 8 a0 192)) ≠ 128))
def Ye (a0 : (List UInt8)) (x5_2 : Int) : Option (Int × Int) :=
 Jo (Yw a0 x5_2 (a0.length : Int)) fun t40 =>
 Jo (Yc t40) fun t41 =>
 Jo (gI (x5_2 + t41.2)) fun t46 =>
 J6 (decide (t46 ≠ (a0.length : Int))) (some (65533, 1)) (some (t41.1, t41.2))
def Yg (a0 : (List UInt8)) (x5 : Int) : Option (Int × Int) :=
 J6 (decide (x5 < 0)) (Ye a0 0) (Ye a0 x5)
def Yj (a0 : (List UInt8)) (t21 : Int) (next3 : ((Int) → Option (Int × Int))) (x5_4 : Int) : Option (Int × Int) :=
 J6 (decide ((max t21 0) ≤ x5_4)) (Jo (Zp a0 x5_4) fun t32 =>
 Jo (Jcl t32) fun t33 =>
 J6 t33 (Yg a0 x5_4) (Jo (gI (x5_4 - 1)) fun t29 =>
 next3 t29)) (Yg a0 x5_4)
def Vr (a0 : (List UInt8)) : Option (Int × Int) :=
 J6 (decide ((a0.length : Int) = 0)) (some (65533, 0)) (Jo (gI ((a0.length : Int) - 1)) fun t12 =>
 Jo (Zp a0 t12) fun t15 =>
 Jo (gK (-2147483648) 2147483647 t15) fun t16 =>
 J6 (decide (t16 < 128)) (some (t16, 1)) (Jo (gI ((a0.length : Int) - 4)) fun t21 =>
 Jo (gI (t12 - 1)) fun t24 =>
 Z8 (fun next3 s => Yj a0 t21 next3 s) t24))
def Vj (a1 : (List UInt8)) (x0_2 : (List UInt8)) (next1 : (((List UInt8)) → Option ((List UInt8)))) (x5 : Int) (x6 : Int) : Option ((List UInt8)) :=
 Jo (Jap a1 x5) fun t25 =>
 J6 (!t25) (some x0_2) (Jo (gI ((x0_2.length : Int) - x6)) fun t31 =>
 Jo (Yw x0_2 0 t31) fun t32 =>
 next1 t32)
def Vm (a1 : (List UInt8)) (next1 : (((List UInt8)) → Option ((List UInt8)))) (x0_2 : (List UInt8)) : Option ((List UInt8)) :=
 J6 (decide (0 < (x0_2.length : Int))) (Jo (gI ((x0_2.length : Int) - 1)) fun t13 =>
 Jo (Zp x0_2 t13) fun t14 =>
 Jo (gK (-2147483648) 2147483647 t14) fun t15 =>
 J6 (decide (128 ≤ t15)) (Jo (Vr x0_2) fun t20 =>
 Vj a1 x0_2 next1 t20.1 t20.2) (Vj a1 x0_2 next1 t15 1)) (some x0_2)
def Jbi (a0 : (List UInt8)) (a1 : (List UInt8)) : Option ((List UInt8)) :=
 Z8 (fun next1 s => Vm a1 next1 s) a0
def Jbj (a0 : (List UInt8)) (a1 : (List UInt8)) : Option ((List UInt8)) :=
 Jo (Wt a1) fun t31 =>
 J6 t31.2 (Jo (Vi a0 t31.1) fun t36 =>
 Jo (V8 t36.1 t36.2) fun t37 =>
 some t37.1) (Jo (Jbi a0 a1) fun t40 =>
 Jo (Jbz t40 a1) fun t42 =>
 some t42)
def Jcc (a0 : (List UInt8)) (a1 : (List UInt8)) : Option ((List UInt8)) :=
 J6 (decide (a0 = [])) (some a0) (J6 (decide (a1 = [])) (some a0) (J6 (decide ((a1.length : Int) = 1)) (Jo (Zp a1 0) fun t19 =>
 J6 (decide (t19 < 128)) (Jo (Zp a1 0) fun t24 =>
 Jo (V7 a0 t24) fun t25 =>
 Jo (Zp a1 0) fun t27 =>
 Jo (We t25 t27) fun t28 =>
 some t28) (Jbj a0 a1)) (Jbj a0 a1)))
def Y5 (a0 : (List UInt8)) (x6 : (List UInt8)) : Option (Int × Bool) :=
 J6 (decide (x6 = [])) (some (0, false)) (J6 (decide (10 < (x6.length : Int))) (some (0, false)) (Jo (Jcc x6 [48, 49, 50, 51, 52, 53, 54, 55, 56, 57]) fun t22 =>
 J6 (decide (t22 ≠ [])) (some (0, false)) (Jo (gAtoi a0) fun t27 =>
 Jo (Uq t27) fun t35 =>
 some (t27, (decide (t35 = a0))))))
def Xy (a0 : (List UInt8)) (a1 : Bool) : Option (Int × Bool) :=
 J6 a1 (Jo (U0 a0 [45]) fun t12 =>
 Y5 a0 t12) (Y5 a0 a0)
def Y9 (a0 : (List UInt8)) (next1 : ((Int × Nat) → Option (Int))) (x2_2 : Int) (k_2 : Nat) : Option (Int) :=
 J6 (decide (k_2 < a0.length)) (Jo (gNx a0 k_2) fun t5 =>
 Jo (gI (x2_2 + 1)) fun t8 =>
 next1 (t8, (k_2 + 1))) (some x2_2)
def Zu (a0 : (List UInt8)) : Option (Int) :=
 Z8 (fun next1 s => Y9 a0 next1 s.1 s.2) (0, 0)
def Jdz (x1 : Int) (x0 : (List UInt8)) (l : (List (List UInt8))) : Option ((List (List UInt8))) :=
 J6 (decide (0 < x1)) (Jo (gI (x1 - 1)) fun t46 =>
 Jo (Vh l t46) fun t48 =>
 Jo (gSet l t46 x0) fun l0 =>
 some l0) (some l)
def Jbw (x1 : Int) (next3 : (((List UInt8) × Int × (List (List UInt8))) → Option ((List (List UInt8))))) (x0_3 : (List UInt8)) (x7_2 : Int) (l_3 : (List (List UInt8))) : Option ((List (List UInt8))) :=
 Jo (gI (x1 - 1)) fun t24 =>
 J6 (decide (x7_2 < t24)) (Jo (Yc x0_3) fun t30 =>
 Jo (Yw x0_3 0 t30.2) fun t37 =>
 Jo (Vh l_3 x7_2) fun t38 =>
 Jo (gSet l_3 x7_2 t37) fun l0_2 =>
 Jo (Yw x0_3 t30.2 x0_3.length) fun t41 =>
 Jo (gI (x7_2 + 1)) fun t27 =>
 next3 (t41, t27, l0_2)) (Jdz x1 x0_3 l_3)
def Uy (a0 : (List UInt8)) (x1 : Int) : Option ((List (List UInt8))) :=
 Jo (gMake 16 x1 []) fun t21 =>
 Z8 (fun next3 s => Jbw x1 next3 s.1 s.2.1 s.2.2) (a0, 0, t21)
def Jfx (a0 : (List UInt8)) (a1 : Int) : Option ((List (List UInt8))) :=
 Jo (Zu a0) fun t11 =>
 J6 (decide (a1 < 0)) (Uy a0 t11) (J6 (decide (t11 < a1)) (Uy a0 t11) (Uy a0 a1))
def Jbf (a0 : (List UInt8)) (a1 : (List UInt8)) : Option (Int) :=
 Jo (Yd a0 a1) fun t7 =>
 some t7
def Jcx (a1 : (List UInt8)) (next1 : (((List UInt8) × Int) → Option (Int))) (x0_2 : (List UInt8)) (x5_2 : Int) : Option (Int) :=
 Jo (Jbf x0_2 a1) fun t22 =>
 J6 (decide (t22 = (-1))) (some x5_2) (Jo (gI (x5_2 + 1)) fun t27 =>
 Jo (gI (t22 + (a1.length : Int))) fun t32 =>
 Jo (Yw x0_2 t32 x0_2.length) fun t33 =>
 next1 (t33, t27))
def Jc0 (a0 : (List UInt8)) (a1 : (List UInt8)) : Option (Int) :=
 J6 (decide ((a1.length : Int) = 0)) (Jo (Zu a0) fun t11 =>
 Jo (gI (t11 + 1)) fun t12 =>
 some t12) (J6 (decide ((a1.length : Int) = 1)) (Jo (Zp a1 0) fun t18 =>
 Jo (gCnB a0 t18) fun t19 =>
 some t19) (Z8 (fun next1 s => Jcx a1 next1 s.1 s.2) (a0, 0)))
def Vf (x0 : (List UInt8)) (x10 : Int) (l : (List (List UInt8))) : Option ((List (List UInt8))) :=
 Jo (Vh l x10) fun t61 =>
 Jo (gSet l x10 x0) fun l0 =>
 Jo (gI (x10 + 1)) fun t64 =>
 Jo (Yw l0 0 t64) fun t65 =>
 some t65
def Xe (a1 : (List UInt8)) (a2 : Int) (t33 : Int) (next3 : (((List UInt8) × Int × (List (List UInt8))) → Option ((List (List UInt8))))) (x0_3 : (List UInt8)) (x10_3 : Int) (l_3 : (List (List UInt8))) : Option ((List (List UInt8))) :=
 J6 (decide (x10_3 < t33)) (Jo (Jbf x0_3 a1) fun t39 =>
 J6 (decide (t39 < 0)) (Vf x0_3 x10_3 l_3) (Jo (gI (t39 + a2)) fun t47 =>
 Jo (Yw x0_3 0 t47) fun t48 =>
 Jo (Vh l_3 x10_3) fun t49 =>
 Jo (gSet l_3 x10_3 t48) fun l0_2 =>
 Jo (gI (t39 + (a1.length : Int))) fun t54 =>
 Jo (Yw x0_3 t54 x0_3.length) fun t55 =>
 Jo (gI (x10_3 + 1)) fun t57 =>
 next3 (t55, t57, l0_2))) (Vf x0_3 x10_3 l_3)
def W6 (a0 : (List UInt8)) (a1 : (List UInt8)) (a2 : Int) (x3 : Int) : Option ((List (List UInt8))) :=
 Jo (gI ((a0.length : Int) + 1)) fun t28 =>
 Jo (gMake 16 (min x3 t28) []) fun t31 =>
 Jo (gI ((min x3 t28) - 1)) fun t33 =>
 Z8 (fun next3 s => Xe a1 a2 t33 next3 s.1 s.2.1 s.2.2) (a0, 0, t31)
def Ja3 (a0 : (List UInt8)) (a1 : (List UInt8)) (a2 : Int) (a3 : Int) : Option ((List (List UInt8))) :=
 J6 (decide (a3 = 0)) (some ([] : List (List UInt8))) (J6 (decide (a1 = [])) (Jo (Jfx a0 a3) fun t18 =>
 some t18) (J6 (decide (a3 < 0)) (Jo (Jc0 a0 a1) fun t23 =>
 Jo (gI (t23 + 1)) fun t24 =>
 W6 a0 a1 a2 t24) (W6 a0 a1 a2 a3)))
def Jc2 (a0 : (List UInt8)) (a1 : (List UInt8)) : Option ((List (List UInt8))) :=
 Jo (Ja3 a0 a1 0 (-1)) fun t7 =>
 some t7
def Jf6 (a0 : Int) : Option ((List UInt8)) :=
 J6 (decide (a0 = 1)) (some [98, 121, 116, 101]) (J6 (decide (a0 = 2)) (some [97, 115, 99, 105, 105]) (J6 (decide (a0 = 3)) (some [115, 104, 111, 114, 116]) (J6 (decide (a0 = 4)) (some [108, 111, 110, 103]) (J6 (decide (a0 = 5)) (some [114, 97, 116, 105, 111]) (J6 (decide (a0 = 7)) (some [111, 112, 97, 113, 117, 101]) (some [115, 105, 103, 110, 101, 100]))))))
def Zc (a0 : (List UInt8)) (next1 : ((Int) → Option (Int))) (x7_2 : Int) : Option (Int) :=
 J6 (decide (x7_2 < 7)) (Jo (Vh ([1, 2, 3, 4, 5, 7, 9] : List Int) x7_2) fun t9 =>
 Jo (Jf6 t9) fun t12 =>
 J6 (decide (t12 = a0)) (some t9) (Jo (gI (x7_2 + 1)) fun t16 =>
 next1 t16)) (some 0)
def Jfb (a0 : (List UInt8)) : Option (Int) :=
 Z8 (fun next1 s => Zc a0 next1 s) 0
def Jfj (x0 : (List UInt8)) (l : (List Int)) : Option ((List UInt8) × Bool) :=
 some ((W2 l), (decide (x0 = [])))
def Wi (next2 : (((List UInt8) × (List Int)) → Option ((List UInt8) × Bool))) (x0_3 : (List UInt8)) (l_3 : (List Int)) : Option ((List UInt8) × Bool) :=
 J6 (decide (2 ≤ (x0_3.length : Int))) (Jo (Zp x0_3 0) fun t13 =>
 Jo (Qd [48, 49, 50, 51, 52, 53, 54, 55, 56, 57, 97, 98, 99, 100, 101, 102] t13) fun t14 =>
 Jo (Zp x0_3 1) fun t16 =>
 Jo (Qd [48, 49, 50, 51, 52, 53, 54, 55, 56, 57, 97, 98, 99, 100, 101, 102] t16) fun t17 =>
 J6 (decide (t14 < 0)) (some ([], false)) (J6 (decide (t17 < 0)) (some ([], false)) (Jo (gShl t14 4) fun t26 =>
 Jo (Xk 1 l_3 ([(wU8 (wI64 (bOr 64 t26 t17)))] : List Int)) fun l31 =>
 Jo (Yw x0_3 2 x0_3.length) fun t11 =>
 next2 (t11, l31)))) (Jfj x0_3 l_3)
def Jgo (a0 : (List UInt8)) : Option ((List UInt8) × Bool) :=
 Z8 (fun next2 s => Wi next2 s.1 s.2) (a0, ([] : List Int))
def Jc6 (a0 : (List UInt8)) : Option (Td × Bool) :=
 Jo (Zx a0 [47]) fun t13 =>
 Jo (Xy t13.1 false) fun t19 =>
 Jo (Xy t13.2.1 false) fun t24 =>
 J6 t13.2.2 (J6 t19.2 (some ((⟨t19.1, t24.1⟩ : Td), t24.2)) (some ((⟨t19.1, t24.1⟩ : Td), false))) (some ((⟨t19.1, t24.1⟩ : Td), false))
def Uc (a0 : Int) (a1 : (List (List UInt8))) : Option (Tc × Bool) :=
 Jo (Jgq a1 []) fun t35 =>
 Jo (Jgo t35) fun t36 =>
 some ((⟨a0, t36.1, ([] : List Int), ([] : List Td), ([] : List Ta)⟩ : Tc), t36.2)
def Jcq (a0 : Int) (l : (List Int)) (l_2 : (List Td)) : Option (Tc × Bool) :=
 some ((⟨a0, [], l, l_2, ([] : List Ta)⟩ : Tc), true)
def Ug (x45_2 : Int) (next3 : ((Int × (List Int) × (List Td)) → Option (Tc × Bool))) (x11 : Bool) (l_7 : (List Int)) (l_8 : (List Td)) : Option (Tc × Bool) :=
 J6 (!x11) (some ((⟨0, [], ([] : List Int), ([] : List Td), ([] : List Ta)⟩ : Tc), false)) (Jo (gI (x45_2 + 1)) fun t78 =>
 next3 (t78, l_7, l_8))
def Xz (a0 : Int) (a1 : (List (List UInt8))) (next3 : ((Int × (List Int) × (List Td)) → Option (Tc × Bool))) (x45_2 : Int) (l_5 : (List Int)) (l_6 : (List Td)) : Option (Tc × Bool) :=
 J6 (decide (x45_2 < (a1.length : Int))) (Jo (Vh a1 x45_2) fun t47 =>
 J6 (decide (a0 = 5)) (Jo (Jc6 t47) fun t53 =>
 Jo (Xk 16 l_6 ([t53.1] : List Td)) fun l60 =>
 Ug x45_2 next3 t53.2 l_5 l60) (Jo (Xy t47 (decide (a0 = 9))) fun t66 =>
 Jo (Xk 8 l_5 ([t66.1] : List Int)) fun l73 =>
 Ug x45_2 next3 t66.2 l73 l_6)) (Jcq a0 l_5 l_6)
def Jc5 (a0 : Int) (a1 : (List (List UInt8))) : Option (Tc × Bool) :=
 Jo (Jbr a0) fun t17 =>
 J6 t17 (J6 (decide (1 < (a1.length : Int))) (some ((⟨0, [], ([] : List Int), ([] : List Td), ([] : List Ta)⟩ : Tc), false)) (J6 (decide ((a1.length : Int) = 1)) (Jo (Vh a1 0) fun t27 =>
 J6 (decide (t27 = [])) (some ((⟨0, [], ([] : List Int), ([] : List Td), ([] : List Ta)⟩ : Tc), false)) (Uc a0 a1)) (Uc a0 a1))) (Z8 (fun next3 s => Xz a0 a1 next3 s.1 s.2.1 s.2.2) (0, ([] : List Int), ([] : List Td)))
def U5 (a0 : (List Ta)) : Option ((List Ta)) :=
 J6 (decide ((a0.length : Int) = 0)) (some ([] : List Ta)) (none)
def Jac (a0 : Tc) : Option (Tc) :=
 Jo (Yk a0.kaj) fun t5 =>
 Jo (Ze a0.kag) fun t10 =>
 Jo (U5 a0.kaf) fun t15 =>
 some (⟨a0.kah, a0.kai, t5, t10, t15⟩ : Tc)
def Jaa (a0 : (List UInt8)) : Option (Tc × Int) :=
 J6 (decide (1000000 < (a0.length : Int))) (some ((⟨0, [], ([] : List Int), ([] : List Td), ([] : List Ta)⟩ : Tc), 4)) (Jo (Jc2 a0 [32]) fun t14 =>
 Jo (Vh t14 0) fun t16 =>
 Jo (Jfb t16) fun t18 =>
 J6 (decide (t18 = 0)) (some ((⟨0, [], ([] : List Int), ([] : List Td), ([] : List Ta)⟩ : Tc), 8)) (Jo (Yw t14 1 t14.length) fun t25 =>
 Jo (Jc5 t18 t25) fun t26 =>
 J6 (!t26.2) (some ((⟨0, [], ([] : List Int), ([] : List Td), ([] : List Ta)⟩ : Tc), 8)) (Jo (Jcd t26.1) fun t33 =>
 J6 (decide (t33 ≠ 0)) (some ((⟨0, [], ([] : List Int), ([] : List Td), ([] : List Ta)⟩ : Tc), t33)) (Jo (Jac t26.1) fun t39 =>
 some (t39, 0)))))
def Jhc (m : (List UInt8)) : Option ((List UInt8)) :=
 some m
def Jaq (a0 : (List UInt8)) (next2 : ((Int × (List UInt8)) → Option ((List UInt8)))) (x7_2 : Int) (m_3 : (List UInt8)) : Option ((List UInt8)) :=
 J6 (decide (x7_2 < (a0.length : Int))) (Jo (Zp a0 x7_2) fun t12 =>
 Jo (gShr 8 t12 4) fun t13 =>
 Jo (Zp [48, 49, 50, 51, 52, 53, 54, 55, 56, 57, 97, 98, 99, 100, 101, 102] t13) fun t14 =>
 Jo (gBldB m_3 t14) fun t15 =>
 Jo (Zp a0 x7_2) fun t18 =>
 Jo (Zp [48, 49, 50, 51, 52, 53, 54, 55, 56, 57, 97, 98, 99, 100, 101, 102] (wU8 (bAnd 8 t18 15))) fun t20 =>
 Jo (gBldB t15 t20) fun t21 =>
 Jo (gI (x7_2 + 1)) fun t22 =>
 next2 (t22, t21)) (Jhc m_3)
def Ji4 (a0 : (List UInt8)) : Option ((List UInt8)) :=
 Z8 (fun next2 s => Jaq a0 next2 s.1 s.2) (0, [])
def Ja5 (l_3 : (List (List UInt8))) : Option ((List UInt8)) :=
 Jo (Jgq l_3 [32]) fun t54 =>
 some t54
def W8 (a0 : Tc) (l_2 : (List (List UInt8))) : Option ((List UInt8)) :=
 J6 (decide (a0.kai ≠ [])) (Jo (Ji4 a0.kai) fun t50 =>
 Jo (Xk 16 l_2 ([t50] : List (List UInt8))) fun l52 =>
 Ja5 l52) (Ja5 l_2)
def Y8 (a0 : Tc) (next4 : ((Int × (List (List UInt8))) → Option ((List UInt8)))) (x28_2 : Int) (l_5 : (List (List UInt8))) : Option ((List UInt8)) :=
 J6 (decide (x28_2 < (a0.kag.length : Int))) (Jo (Vh a0.kag x28_2) fun t30 =>
 Jo (Uq t30.Num) fun t35 =>
 Jo (Jcm t35 [47]) fun t36 =>
 Jo (Uq t30.Den) fun t39 =>
 Jo (Jcm t36 t39) fun t40 =>
 Jo (Xk 16 l_5 ([t40] : List (List UInt8))) fun l42 =>
 Jo (gI (x28_2 + 1)) fun t43 =>
 next4 (t43, l42)) (W8 a0 l_5)
def Vv (a0 : Tc) (l : (List (List UInt8))) : Option ((List UInt8)) :=
 Z8 (fun next4 s => Y8 a0 next4 s.1 s.2) (0, l)
def Ym (a0 : Tc) (next5 : ((Int × (List (List UInt8))) → Option ((List UInt8)))) (x15_2 : Int) (l_7 : (List (List UInt8))) : Option ((List UInt8)) :=
 J6 (decide (x15_2 < (a0.kaj.length : Int))) (Jo (Vh a0.kaj x15_2) fun t17 =>
 Jo (Uq t17) fun t21 =>
 Jo (Xk 16 l_7 ([t21] : List (List UInt8))) fun l23 =>
 Jo (gI (x15_2 + 1)) fun t24 =>
 next5 (t24, l23)) (Vv a0 l_7)
def Jc1 (a0 : Tc) : Option ((List UInt8)) :=
 Jo (Jf6 a0.kah) fun t10 =>
 Z8 (fun next5 s => Ym a0 next5 s.1 s.2) (0, ([t10] : List (List UInt8)))
def Jay (x10_2 : Int) (next1 : ((Int × (List UInt8)) → Option ((List UInt8)))) (m_3 : (List UInt8)) : Option ((List UInt8)) :=
 Jo (gI (x10_2 + 1)) fun t45 =>
 next1 (t45, m_3)
def Zy (a1 : (List Ta)) (a2 : (List UInt8)) (self : ((List UInt8) × (List Ta) × (List UInt8)) → Option ((List UInt8))) (next1 : ((Int × (List UInt8)) → Option ((List UInt8)))) (x10_2 : Int) (m_2 : (List UInt8)) : Option ((List UInt8)) :=
 J6 (decide (x10_2 < (a1.length : Int))) (Jo (Vh a1 x10_2) fun t12 =>
 Jo (Uq t12.Tag) fun t18 =>
 Jo (Jcm a2 t18) fun t19 =>
 Jo (Jcm t19 [32]) fun t20 =>
 Jo (gBld m_2 t20) fun t21 =>
 J6 (decide (t12.Value.kah ≠ 13)) (Jo (Jc1 t12.Value) fun t29 =>
 Jo (Jcm t29 [10]) fun t30 =>
 Jo (gBld t21 t30) fun t31 =>
 Jay x10_2 next1 t31) (Jo (gBld t21 [123, 10]) fun t33 =>
 Jo (Jcm a2 [32, 32]) fun t39 =>
 Jo (self (t33, t12.Value.kaf, t39)) fun t40 =>
 Jo (Jcm a2 [125, 10]) fun t43 =>
 Jo (gBld t40 t43) fun t44 =>
 Jay x10_2 next1 t44)) (some m_2)
def Yn (self : ((List UInt8) × (List Ta) × (List UInt8)) → Option ((List UInt8))) (a0 : (List UInt8)) (a1 : (List Ta)) (a2 : (List UInt8)) : Option ((List UInt8)) :=
 Z8 (fun next1 s => Zy a1 a2 self next1 s.1 s.2) (0, a0)
def Jf5 (a0 : (List UInt8)) (a1 : (List Ta)) (a2 : (List UInt8)) : Option ((List UInt8)) :=
 Z8 (fun (self : ((List UInt8) × (List Ta) × (List UInt8)) → Option ((List UInt8))) (s : (List UInt8) × (List Ta) × (List UInt8)) => Yn self s.1 s.2.1 s.2.2) (a0, a1, a2)
def Jb2 (m_2 : (List UInt8)) : Option ((List UInt8) × Int) :=
 J6 (decide (1000000 < (m_2.length : Int))) (some ([], 4)) (some (m_2, 0))
def Up (a0 : Tg) (next3 : ((Int × (List UInt8)) → Option ((List UInt8) × Int))) (x20_2 : Int) (m_4 : (List UInt8)) : Option ((List UInt8) × Int) :=
 J6 (decide (x20_2 < (a0.kal.length : Int))) (Jo (Vh a0.kal x20_2) fun t22 =>
 Jo (gBld m_4 [100, 105, 114, 10]) fun t24 =>
 Jo (Jf5 t24 t22 [32, 32]) fun t26 =>
 Jo (gI (x20_2 + 1)) fun t27 =>
 next3 (t27, t26)) (Jb2 m_4)
def Jda (a0 : Tg) (m : (List UInt8)) : Option ((List UInt8) × Int) :=
 Z8 (fun next3 s => Up a0 next3 s.1 s.2) (0, m)
def Je1 (a0 : Tg) : Option ((List UInt8) × Int) :=
 Jo (Vt a0) fun t9 =>
 J6 (decide (t9 ≠ 0)) (some ([], t9)) (J6 a0.Big (Jo (gBld [] [98, 105, 103, 10]) fun t15 =>
 Jda a0 t15) (Jo (gBld [] [108, 105, 116, 116, 108, 101, 10]) fun t16 =>
 Jda a0 t16))
def Wp (e : Ta) (l : List Ta) : Ta := ⟨e.Tag, ⟨e.Value.kah, e.Value.kai, e.Value.kaj, e.Value.kag, l⟩⟩
def fits : Nat → List Ta → Prop
 | 0, _ => False
 | d + 1, xs => xs.length ≤ 1000000 ∧ ∀ x ∈ xs, x.Value.kaj.length ≤ 2000000 ∧ x.Value.kag.length ≤ 2000000 ∧ fits d x.Value.kaf
def fitV (d : Nat) (x : Tc) : Prop := x.kaj.length ≤ 2000000 ∧ x.kag.length ≤ 2000000 ∧ fits d x.kaf
def fitF (d : Nat) (f : Tg) : Prop := f.kal.length ≤ 1000000 ∧ ∀ l ∈ f.kal, fits d l
def noF : Tg := ⟨false, []⟩
structure TxR where
 big : Bool
 dirs : List (List Ta)
 op : List Ta
def Jhe (r : TxR) (e : Ta) : Option TxR :=
 J6 (decide (0 < (r.op.length : Int))) (Jo (gI ((r.op.length : Int) - 1)) fun q => Jo (Vh r.op q) fun x => Jo (Xk 104 x.Value.kaf [e]) fun zs => Jo (gSet r.op q (Wp x zs)) fun op => some ⟨r.big, r.dirs, op⟩)
  (Jo (gI ((r.dirs.length : Int) - 1)) fun q => Jo (Vh r.dirs q) fun l => Jo (Xk 104 l [e]) fun zs => Jo (gSet r.dirs q zs) fun ds => some ⟨r.big, ds, r.op⟩)
def Jhz (r : TxR) (tag : Int) (s : List UInt8) : Option (Int × TxR) :=
 Jo (Jaa s) fun v => J6 (decide (v.2 = 0)) (Jo (Jhe r ⟨tag, v.1⟩) fun r' => some (v.2, r')) (some (v.2, r))
def Jet (r : TxR) (s : List UInt8) : Option (Int × TxR) :=
 Jo (gI ((r.op.length : Int) + 1)) fun n1 => Jo (gRep [32, 32] n1) fun t => Jo (Jak s t) fun q => Jo (Zx q.1 [32]) fun c => Jo (Xy c.1 false) fun p =>
  J6 (!q.2 || (!c.2.2 || (!p.2 || decide ((r.dirs.length : Int) = 0)))) (some (8, r))
   (J6 (decide (c.2.1 = [123])) (Jo (Xk 104 r.op [⟨p.1, ⟨13, [], [], [], []⟩⟩]) fun op => some (0, ⟨r.big, r.dirs, op⟩)) (Jhz r p.1 c.2.1))
def tx_shut (r : TxR) : Option (Int × TxR) :=
 Jo (gI ((r.op.length : Int) - 1)) fun q => Jo (Vh r.op q) fun e => Jo (Yw r.op 0 q) fun op => Jo (Jhe ⟨r.big, r.dirs, op⟩ e) fun r' => some (0, r')
def Jhv (r : TxR) (s : List UInt8) : Option (Int × TxR) :=
 Jo (J6 (decide (0 < (r.op.length : Int))) (Jo (gRep [32, 32] r.op.length) fun t => Jo (Jcm t [125]) fun u => some (decide (s = u))) (some false)) fun shut => J6 shut (tx_shut r) (Jet r s)
def Us (r : TxR) (s : List UInt8) : Option (Int × TxR) :=
 J6 (decide (s = [100, 105, 114]) && decide ((r.op.length : Int) = 0)) (Jo (Xk 24 r.dirs [[]]) fun ds => some (0, ⟨r.big, ds, r.op⟩)) (Jhv r s)
def Jav (next : (List UInt8) × Int × TxR → Option (Tg × Int × Int)) : (List UInt8) × Int × TxR → Option (Tg × Int × Int) := fun x =>
 J6 (decide (x.1 ≠ [])) (Jo (Zx x.1 [10]) fun c => Jo (gI (x.2.1 + 1)) fun n =>
   Jo (J6 (!c.2.2 || (decide (n = 1) && (decide (c.1 ≠ [98, 105, 103]) && decide (c.1 ≠ [108, 105, 116, 116, 108, 101])))) (some (8, x.2.2))
    (J6 (decide (n = 1)) (some (0, ⟨decide (c.1 = [98, 105, 103]), x.2.2.dirs, x.2.2.op⟩)) (Us x.2.2 c.1))) fun q =>
   J6 (decide (q.1 ≠ 0)) (some (noF, n, q.1)) (next (c.2.1, n, q.2)))
  (J6 (decide (x.2.1 = 0) || decide (0 < (x.2.2.op.length : Int))) (Jo (gI (x.2.1 + 1)) fun n => some (noF, n, 8))
   (Jo (Vt ⟨x.2.2.big, x.2.2.dirs⟩) fun c => J6 (decide (c ≠ 0)) (some (noF, 0, c)) (open Classical in if fitF 8 ⟨x.2.2.big, x.2.2.dirs⟩ then some (⟨x.2.2.big, x.2.2.dirs⟩, 0, 0) else none)))
def Wg (s : List UInt8) : Option (Tg × Int × Int) :=
 J6 (decide (1000000 < (s.length : Int))) (some (noF, 0, 4)) (Z8 Jav (s, 0, ⟨false, [], []⟩))
def Jd4 (a0 : Td) : Option (Int) :=
 Jo (Wr a0.Num 0 4294967295) fun t5 =>
 J6 t5 (some 2) (Jo (Wr a0.Den 1 4294967295) fun t9 =>
 J6 t9 (some 2) (some 0))
def Jgt (a0 : Td) (x5 : Int) : Option (Td × Int) :=
 Jo (gQuo a0.Num x5) fun t26 =>
 Jo (gQuo a0.Den x5) fun t30 =>
 some ((⟨t26, t30⟩ : Td), 0)
def Zw (a0 : Td) (next2 : ((Int × Int) → Option (Td × Int))) (x5_3 : Int) (x6_2 : Int) : Option (Td × Int) :=
 J6 (decide (x6_2 ≠ 0)) (Jo (gRem x5_3 x6_2) fun t22 =>
 next2 (x6_2, t22)) (Jgt a0 x5_3)
def Jfg (a0 : Td) : Option (Td × Int) :=
 Jo (Jd4 a0) fun t8 =>
 J6 (decide (t8 ≠ 0)) (some ((⟨0, 0⟩ : Td), t8)) (Z8 (fun next2 s => Zw a0 next2 s.1 s.2) (a0.Num, a0.Den))
def Jbe  : Option (Bool) :=
 Jo (Jfg (⟨2, 4⟩ : Td)) fun t5 =>
 J6 (decide (t5.2 = 0)) (some (Jb6 t5.1 (⟨1, 2⟩ : Td))) (some false)
def Jcw (a0 : (List UInt8)) : Option (Bool) :=
 J6 (decide ((a0.length : Int) < 8)) (some false) (Jo (Yw a0 0 4) fun t7 =>
 J6 (decide (t7 = [73, 73, 42, 0])) (some true) (Jo (Yw a0 0 4) fun t11 =>
 some (decide (t11 = [77, 77, 0, 42]))))
def U3 (a1 : (List UInt8)) (a2 : Int) (x9_2 : Int) (x13_2 : Int) (next1 : ((Int × Int) → Option (Int))) (x11 : Int) : Option (Int) :=
 Jo (gShl x9_2 8) fun t23 =>
 Jo (gI (a2 + x11)) fun t27 =>
 Jo (Zp a1 t27) fun t28 =>
 Jo (gK (-9223372036854775808) 9223372036854775807 t28) fun t29 =>
 Jo (gI (x13_2 + 1)) fun t31 =>
 next1 ((wI64 (bOr 64 t23 t29)), t31)
def Zj (a0 : Bool) (a1 : (List UInt8)) (a2 : Int) (a3 : Int) (next1 : ((Int × Int) → Option (Int))) (x9_2 : Int) (x13_2 : Int) : Option (Int) :=
 J6 (decide (x13_2 < a3)) (Jo (gI (a3 - 1)) fun t17 =>
 Jo (gI (t17 - x13_2)) fun t19 =>
 J6 a0 (U3 a1 a2 x9_2 x13_2 next1 x13_2) (U3 a1 a2 x9_2 x13_2 next1 t19)) (some x9_2)
def Jaz (a0 : Bool) (a1 : (List UInt8)) (a2 : Int) (a3 : Int) : Option (Int) :=
 Z8 (fun next1 s => Zj a0 a1 a2 a3 next1 s.1 s.2) (0, 0)
def Jn (a0 : Tb) (a1 : Int) (a2 : Int) : Option (Int) :=
 Jo (Jaz a0.kab a0.s_ a1 a2) fun t17 =>
 some t17
def Vu (a0 : Tb) (a1 : Int) (a2 : Int) : Option (Bool) :=
 J6 (decide (8 ≤ a1)) (J6 (decide (a2 ≤ (a0.s_.length : Int))) (Jo (gI ((a0.s_.length : Int) - a2)) fun t26 =>
 some (decide (a1 ≤ t26))) (some false)) (some false)
def Qt (a0 : Tb) (a1 : Int) : Option (Tb) :=
 J6 (decide (a0.no_ = 0)) (some (⟨a0.s_, a0.kab, a0.kaa, a0.kae, a0.kad, a0.kac, a1⟩ : Tb)) (some a0)
def Ve (x25_2 : Int) (next1 : ((Int × (List UInt8) × Bool × Int × Nat × Int × (List Te) × (List (Int × Bool))) → Option ((List UInt8) × Tb))) (m_11 : (List UInt8)) (m_12 : Bool) (m_13 : Int) (m_14 : Nat) (m_15 : Int) (l_3 : (List Te)) (mp_3 : (List (Int × Bool))) : Option ((List UInt8) × Tb) :=
 Jo (gI (x25_2 + 1)) fun t34 =>
 next1 (t34, m_11, m_12, m_13, m_14, m_15, l_3, mp_3)
def Xd (t22 : (List UInt8)) (next1 : ((Int × (List UInt8) × Bool × Int × Nat × Int × (List Te) × (List (Int × Bool))) → Option ((List UInt8) × Tb))) (x25_2 : Int) (m_6 : (List UInt8)) (m_7 : Bool) (m_8 : Int) (m_9 : Nat) (m_10 : Int) (l_2 : (List Te)) (mp_2 : (List (Int × Bool))) : Option ((List UInt8) × Tb) :=
 J6 (decide (x25_2 < (t22.length : Int))) (Jo (Zp t22 x25_2) fun t30 =>
 J6 (decide (t30 = 0)) (Jo (Qt (⟨m_6, m_7, l_2, mp_2, m_8, m_9, m_10⟩ : Tb) 9) fun t33 =>
 Ve x25_2 next1 t33.s_ t33.kab t33.kad t33.kac t33.no_ t33.kaa t33.kae) (Ve x25_2 next1 m_6 m_7 m_8 m_9 m_10 l_2 mp_2)) (some (t22, (⟨m_6, m_7, l_2, mp_2, m_8, m_9, m_10⟩ : Tb)))
def Ja6 (a0 : Tb) (a1 : (List UInt8)) : Option ((List UInt8) × Tb) :=
 J6 (decide (a1 = [])) (Jo (Qt a0 1) fun t17 =>
 some ([], t17)) (Jo (gI ((a1.length : Int) - 1)) fun t12 =>
 Jo (Zp a1 t12) fun t13 =>
 J6 (decide (t13 ≠ 0)) (Jo (Qt a0 1) fun t17_2 =>
 some ([], t17_2)) (Jo (gI ((a1.length : Int) - 1)) fun t21 =>
 Jo (Yw a1 0 t21) fun t22 =>
 Z8 (fun next1 s => Xd t22 next1 s.1 s.2.1 s.2.2.1 s.2.2.2.1 s.2.2.2.2.1 s.2.2.2.2.2.1 s.2.2.2.2.2.2.1 s.2.2.2.2.2.2.2) (0, a0.s_, a0.kab, a0.kad, a0.kac, a0.no_, a0.kaa, a0.kae)))
def Vb (a1 : Int) (m : (List UInt8)) (m_2 : Bool) (m_3 : Int) (m_4 : Nat) (m_5 : Int) (l_2 : (List Te)) (mp : (List (Int × Bool))) (m_6 : (List UInt8)) (l_3 : (List Int)) (l_4 : (List Td)) : Option (Tc × Tb) :=
 some ((⟨a1, m_6, l_3, l_4, ([] : List Ta)⟩ : Tc), (⟨m, m_2, l_2, mp, m_3, m_4, m_5⟩ : Tb))
def X0 (a0 : Tb) (a1 : Int) (a2 : Int) (x10 : Int) (l : (List Te)) (next3 : ((Int × (List Td)) → Option (Tc × Tb))) (x107_2 : Int) (l_6 : (List Td)) : Option (Tc × Tb) :=
 J6 (decide (x107_2 < a2)) (Jo (gI (8 * x107_2)) fun t115 =>
 Jo (gI (x10 + t115)) fun t116 =>
 Jo (Jn (⟨a0.s_, a0.kab, l, a0.kae, a0.kad, a0.kac, a0.no_⟩ : Tb) t116 4) fun t117 =>
 Jo (gI (8 * x107_2)) fun t121 =>
 Jo (gI (x10 + t121)) fun t122 =>
 Jo (gI (t122 + 4)) fun t123 =>
 Jo (Jn (⟨a0.s_, a0.kab, l, a0.kae, a0.kad, a0.kac, a0.no_⟩ : Tb) t123 4) fun t124 =>
 Jo (Xk 16 l_6 ([(⟨t117, t124⟩ : Td)] : List Td)) fun l127 =>
 Jo (gI (x107_2 + 1)) fun t129 =>
 next3 (t129, l127)) (Vb a1 a0.s_ a0.kab a0.kad a0.kac a0.no_ l a0.kae [] ([] : List Int) l_6)
def Vg (x50_2 : Int) (l_8 : (List Int)) (next4 : ((Int × (List Int)) → Option (Tc × Tb))) (x14 : Int) : Option (Tc × Tb) :=
 Jo (Xk 8 l_8 ([x14] : List Int)) fun l72 =>
 Jo (gI (x50_2 + 1)) fun t74 =>
 next4 (t74, l72)
def X1 (a0 : Tb) (a1 : Int) (a2 : Int) (x10 : Int) (l : (List Te)) (next4 : ((Int × (List Int)) → Option (Tc × Tb))) (x50_2 : Int) (l_8 : (List Int)) : Option (Tc × Tb) :=
 J6 (decide (x50_2 < a2)) (Jo (Zr a1) fun t57 =>
 Jo (gI (x50_2 * t57)) fun t58 =>
 Jo (gI (x10 + t58)) fun t59 =>
 Jo (Zr a1) fun t61 =>
 Jo (Jn (⟨a0.s_, a0.kab, l, a0.kae, a0.kad, a0.kac, a0.no_⟩ : Tb) t59 t61) fun t62 =>
 J6 (decide (a1 = 9)) (Vg x50_2 l_8 next4 (wI64 (wI32 t62))) (Vg x50_2 l_8 next4 t62)) (Vb a1 a0.s_ a0.kab a0.kad a0.kac a0.no_ l a0.kae [] l_8 ([] : List Td))
def Vd (a0 : Tb) (a1 : Int) (a2 : Int) (t18 : Int) (x10 : Int) (l : (List Te)) : Option (Tc × Tb) :=
 J6 (decide (a1 = 2)) (Jo (gI (x10 + t18)) fun t86 =>
 Jo (Yw a0.s_ x10 t86) fun t87 =>
 Jo (Ja6 (⟨a0.s_, a0.kab, l, a0.kae, a0.kad, a0.kac, a0.no_⟩ : Tb) t87) fun t88 =>
 Vb a1 t88.2.s_ t88.2.kab t88.2.kad t88.2.kac t88.2.no_ t88.2.kaa t88.2.kae t88.1 ([] : List Int) ([] : List Td)) (J6 (decide (a1 = 7)) (Jo (gI (x10 + t18)) fun t100 =>
 Jo (Yw a0.s_ x10 t100) fun t101 =>
 Vb a1 a0.s_ a0.kab a0.kad a0.kac a0.no_ l a0.kae t101 ([] : List Int) ([] : List Td)) (J6 (decide (a1 = 5)) (Z8 (fun next3 s => X0 a0 a1 a2 x10 l next3 s.1 s.2) (0, ([] : List Td))) (Z8 (fun next4 s => X1 a0 a1 a2 x10 l next4 s.1 s.2) (0, ([] : List Int)))))
def Ja1 (a0 : Tb) (a1 : Int) (a2 : Int) (a3 : Int) : Option (Tc × Tb) :=
 Jo (Zr a1) fun t17 =>
 Jo (gI (a2 * t17)) fun t18 =>
 J6 (decide (4 < t18)) (Jo (Jn a0 a3 4) fun t24 =>
 Jo (Vu a0 t24 t18) fun t28 =>
 J6 (!t28) (Jo (Qt a0 2) fun t31 =>
 some ((⟨0, [], ([] : List Int), ([] : List Td), ([] : List Ta)⟩ : Tc), t31)) (Jo (gI (t24 + t18)) fun t41 =>
 Jo (Xk 16 a0.kaa ([(⟨t24, t41⟩ : Te)] : List Te)) fun l44 =>
 Vd a0 a1 a2 t18 t24 l44)) (Vd a0 a1 a2 t18 a3 a0.kaa)
def Zh (t13 : (Int)) (m : Int) (m_2 : (List UInt8)) (l : (List Int)) (l_2 : (List Td)) (l_3 : (List Ta)) (m_3 : (List UInt8)) (m_4 : Bool) (m_5 : Int) (m_6 : Nat) (m_7 : Int) (l_4 : (List Te)) (mp : (List (Int × Bool))) : Option (Ta × Tb) :=
 some ((⟨t13, (⟨m, m_2, l, l_2, l_3⟩ : Tc)⟩ : Ta), (⟨m_3, m_4, l_4, mp, m_5, m_6, m_7⟩ : Tb))
def Zi (a0 : Tb) (a1 : Int) (self : (Tb × Int × (List Int)) → Option ((List Ta) × Int × Tb)) (t13 : (Int)) (t17 : (Int)) (t21 : (Int)) (l26 : (List Int)) (x51 : Bool) : Option (Ta × Tb) :=
 J6 x51 (Jo (Qt a0 1) fun t59 =>
 Zh t13 t17 [] ([] : List Int) ([] : List Td) ([] : List Ta) t59.s_ t59.kab t59.kad t59.kac t59.no_ t59.kaa t59.kae) (J6 (decide (t17 = 13)) (Jo (gI (a1 + 8)) fun t67 =>
 Jo (Jn a0 t67 4) fun t68 =>
 Jo (self (a0, t68, l26)) fun t70 =>
 Zh t13 t17 [] ([] : List Int) ([] : List Td) t70.1 t70.2.2.s_ t70.2.2.kab t70.2.2.kad t70.2.2.kac t70.2.2.no_ t70.2.2.kaa t70.2.2.kae) (Jo (gI (a1 + 8)) fun t42 =>
 Jo (Ja1 a0 t17 t21 t42) fun t43 =>
 Zh t13 t43.1.kah t43.1.kai t43.1.kaj t43.1.kag t43.1.kaf t43.2.s_ t43.2.kab t43.2.kad t43.2.kac t43.2.no_ t43.2.kaa t43.2.kae))
def Q9 (self : (Tb × Int × (List Int)) → Option ((List Ta) × Int × Tb)) (a0 : Tb) (a1 : Int) (a2 : (List Int)) : Option (Ta × Tb) :=
 Jo (Jn a0 a1 2) fun t13 =>
 Jo (gI (a1 + 2)) fun t16 =>
 Jo (Jn a0 t16 2) fun t17 =>
 Jo (gI (a1 + 4)) fun t20 =>
 Jo (Jn a0 t20 4) fun t21 =>
 Jo (Yk a2) fun t23 =>
 Jo (Xk 8 t23 ([t13] : List Int)) fun l26 =>
 Jo (gFn (mft77 a0.kac)) fun g33 =>
 Jo (g33 l26 a1) fun t33 =>
 Jo (Zr t17) fun t47 =>
 J6 (decide (t47 = 0)) (Jo (Qt a0 10) fun t50 =>
 Zh t13 t17 [] ([] : List Int) ([] : List Td) ([] : List Ta) t50.s_ t50.kab t50.kad t50.kac t50.no_ t50.kaa t50.kae) (J6 (decide (t17 = 13)) (Zi a0 a1 self t13 t17 t21 l26 (decide (t21 ≠ 1))) (Zi a0 a1 self t13 t17 t21 l26 false))
def Jai (x7 : Int) (m_11 : (List UInt8)) (m_12 : Bool) (m_13 : Int) (m_14 : Nat) (m_15 : Int) (l_3 : (List Te)) (mp_3 : (List (Int × Bool))) (l_4 : (List Ta)) : Option ((List Ta) × Int × Tb) :=
 some (l_4, x7, (⟨m_11, m_12, l_3, mp_3, m_13, m_14, m_15⟩ : Tb))
def Z2 (a2 : (List Int)) (self : (Tb × Int × (List Int)) → Option ((List Ta) × Int × Tb)) (x1_2 : Int) (x7_3 : Int) (x9_2 : Int) (x10_2 : Int) (m_21 : (List UInt8)) (m_22 : Bool) (m_23 : Int) (m_24 : Nat) (m_25 : Int) (l_7 : (List Te)) (mp_5 : (List (Int × Bool))) (l_8 : (List Ta)) (next4 : ((Int × Int × Int × Int × (List UInt8) × Bool × Int × Nat × Int × (List Te) × (List (Int × Bool)) × (List Ta)) → Option ((List Ta) × Int × Tb))) : Option ((List Ta) × Int × Tb) :=
 Jo (gI (x1_2 + 2)) fun t135 =>
 Jo (gI (12 * x10_2)) fun t137 =>
 Jo (gI (t135 + t137)) fun t138 =>
 Jo (Q9 self (⟨m_21, m_22, l_7, mp_5, m_23, m_24, m_25⟩ : Tb) t138 a2) fun t140 =>
 Jo (Xk 104 l_8 ([t140.1] : List Ta)) fun l142 =>
 Jo (gI (x10_2 + 1)) fun t111 =>
 next4 (x1_2, x7_3, x9_2, t111, t140.2.s_, t140.2.kab, t140.2.kad, t140.2.kac, t140.2.no_, t140.2.kaa, t140.2.kae, l142)
def Q0 (a2 : (List Int)) (self : (Tb × Int × (List Int)) → Option ((List Ta) × Int × Tb)) (next4 : ((Int × Int × Int × Int × (List UInt8) × Bool × Int × Nat × Int × (List Te) × (List (Int × Bool)) × (List Ta)) → Option ((List Ta) × Int × Tb))) (x1_2 : Int) (x7_3 : Int) (x9_2 : Int) (x10_2 : Int) (m_21 : (List UInt8)) (m_22 : Bool) (m_23 : Int) (m_24 : Nat) (m_25 : Int) (l_7 : (List Te)) (mp_5 : (List (Int × Bool))) (l_8 : (List Ta)) : Option ((List Ta) × Int × Tb) :=
 J6 (decide (x10_2 < x9_2)) (J6 (decide (m_25 = 0)) (J6 (decide (0 < x10_2)) (Jo (gI (x1_2 + 2)) fun t117 =>
 Jo (gI (12 * x10_2)) fun t119 =>
 Jo (gI (t117 + t119)) fun t120 =>
 Jo (Jn (⟨m_21, m_22, l_7, mp_5, m_23, m_24, m_25⟩ : Tb) t120 2) fun t121 =>
 Jo (gI (x10_2 - 1)) fun t124 =>
 Jo (Vh l_8 t124) fun t125 =>
 J6 (decide (t121 ≤ t125.Tag)) (Jo (Qt (⟨m_21, m_22, l_7, mp_5, m_23, m_24, m_25⟩ : Tb) 5) fun t131 =>
 Jai x7_3 t131.s_ t131.kab t131.kad t131.kac t131.no_ t131.kaa t131.kae l_8) (Z2 a2 self x1_2 x7_3 x9_2 x10_2 m_21 m_22 m_23 m_24 m_25 l_7 mp_5 l_8 next4)) (Z2 a2 self x1_2 x7_3 x9_2 x10_2 m_21 m_22 m_23 m_24 m_25 l_7 mp_5 l_8 next4)) (Jai x7_3 m_21 m_22 m_23 m_24 m_25 l_7 mp_5 l_8)) (Jai x7_3 m_21 m_22 m_23 m_24 m_25 l_7 mp_5 l_8)
def Wl (a1 : Int) (a2 : (List Int)) (self : (Tb × Int × (List Int)) → Option ((List Ta) × Int × Tb)) (t21 : (Int)) (t91 : (Int)) (m_6 : (List UInt8)) (m_7 : Bool) (m_8 : Int) (m_9 : Nat) (m_10 : Int) (l_2 : (List Te)) (mp_2 : (List (Int × Bool))) : Option ((List Ta) × Int × Tb) :=
 Z8 (fun next4 s => Q0 a2 self next4 s.1 s.2.1 s.2.2.1 s.2.2.2.1 s.2.2.2.2.1 s.2.2.2.2.2.1 s.2.2.2.2.2.2.1 s.2.2.2.2.2.2.2.1 s.2.2.2.2.2.2.2.2.1 s.2.2.2.2.2.2.2.2.2.1 s.2.2.2.2.2.2.2.2.2.2.1 s.2.2.2.2.2.2.2.2.2.2.2) (a1, t91, t21, 0, m_6, m_7, m_8, m_9, m_10, l_2, mp_2, ([] : List Ta))
def Q3 (a1 : Int) (a2 : (List Int)) (self : (Tb × Int × (List Int)) → Option ((List Ta) × Int × Tb)) (t21 : (Int)) (m : (List UInt8)) (m_2 : Bool) (m_3 : Int) (m_4 : Nat) (m_5 : Int) (l : (List Te)) (mp : (List (Int × Bool))) : Option ((List Ta) × Int × Tb) :=
 J6 (decide (m_5 ≠ 0)) (some (([] : List Ta), 0, (⟨m, m_2, l, mp, m_3, m_4, m_5⟩ : Tb))) (Jo (gI (a1 + 2)) fun t75 =>
 Jo (gI (12 * t21)) fun t77 =>
 Jo (gI (t75 + t77)) fun t78 =>
 Jo (gI (t78 + 4)) fun t79 =>
 Jo (Xk 16 l ([(⟨a1, t79⟩ : Te)] : List Te)) fun l82 =>
 Jo (gI (a1 + 2)) fun t87 =>
 Jo (gI (12 * t21)) fun t89 =>
 Jo (gI (t87 + t89)) fun t90 =>
 Jo (Jn (⟨m, m_2, l82, (Jdf mp a1 true), m_3, m_4, m_5⟩ : Tb) t90 4) fun t91 =>
 J6 (decide (1 < (a2.length : Int))) (J6 (decide (t91 ≠ 0)) (Jo (Qt (⟨m, m_2, l82, (Jdf mp a1 true), m_3, m_4, m_5⟩ : Tb) 1) fun t99 =>
 Wl a1 a2 self t21 t91 t99.s_ t99.kab t99.kad t99.kac t99.no_ t99.kaa t99.kae) (Wl a1 a2 self t21 t91 m m_2 m_3 m_4 m_5 l82 (Jdf mp a1 true))) (Wl a1 a2 self t21 t91 m m_2 m_3 m_4 m_5 l82 (Jdf mp a1 true)))
def J3 (self : (Tb × Int × (List Int)) → Option ((List Ta) × Int × Tb)) (a0 : Tb) (a1 : Int) (a2 : (List Int)) : Option ((List Ta) × Int × Tb) :=
 Jo (Vu a0 a1 2) fun t15 =>
 J6 (!t15) (Jo (Qt a0 2) fun t18 =>
 some (([] : List Ta), 0, t18)) (Jo (Jn a0 a1 2) fun t21 =>
 J6 ((Jeq a0.kae a1).getD false) (Jo (Qt a0 13) fun t30 =>
 Q3 a1 a2 self t21 t30.s_ t30.kab t30.kad t30.kac t30.no_ t30.kaa t30.kae) (J6 (decide (20 < a0.kad)) (Jo (Qt a0 4) fun t46 =>
 Q3 a1 a2 self t21 t46.s_ t46.kab t46.kad t46.kac t46.no_ t46.kaa t46.kae) (J6 (decide (5 < (a2.length : Int))) (Jo (Qt a0 4) fun t46_2 =>
 Q3 a1 a2 self t21 t46_2.s_ t46_2.kab t46_2.kad t46_2.kac t46_2.no_ t46_2.kaa t46_2.kae) (J6 (decide (200 < t21)) (Jo (Qt a0 4) fun t46_3 =>
 Q3 a1 a2 self t21 t46_3.s_ t46_3.kab t46_3.kad t46_3.kac t46_3.no_ t46_3.kaa t46_3.kae) (Jo (gI (12 * t21)) fun t51 =>
 Jo (gI (2 + t51)) fun t52 =>
 Jo (gI (t52 + 4)) fun t53 =>
 Jo (Vu a0 a1 t53) fun t54 =>
 J6 (!t54) (Jo (Qt a0 2) fun t57 =>
 Q3 a1 a2 self t21 t57.s_ t57.kab t57.kad t57.kac t57.no_ t57.kaa t57.kae) (Q3 a1 a2 self t21 a0.s_ a0.kab a0.kad a0.kac a0.no_ a0.kaa a0.kae))))))
def V1 (a0 : Tb) (a1 : Int) (a2 : (List Int)) : Option ((List Ta) × Int × Tb) :=
 Z8 (fun (self : (Tb × Int × (List Int)) → Option ((List Ta) × Int × Tb)) (s : Tb × Int × (List Int)) => J3 self s.1 s.2.1 s.2.2) (a0, a1, a2)
def Y0 (a0 : (List Int)) (next1 : ((Int) → Option (Int))) (x8_2 : Int) : Option (Int) :=
 J6 (decide (x8_2 < (a0.length : Int))) (Jo (Vh a0 x8_2) fun t10 =>
 J6 (decide (t10 ≠ 0)) (some t10) (Jo (gI (x8_2 + 1)) fun t16 =>
 next1 t16)) (some 0)
def Jd2 (a0 : (List Int)) : Option (Int) :=
 Z8 (fun next1 s => Y0 a0 next1 s) 0
def Jc3 (a0 : Int) : Option (Bool) :=
 some (decide (a0 ≠ a0))
def cmp_Compare_int (a0 : Int) (a1 : Int) : Option (Int) :=
 Jo (Jc3 a0) fun t8 =>
 Jo (Jc3 a1) fun t10 =>
 J6 t8 (J6 t10 (some 0) (some (-1))) (J6 t10 (some 1) (J6 (decide (a0 < a1)) (some (-1)) (J6 (decide (a1 < a0)) (some 1) (some 0))))
def Qu (a0 : Te) (a1 : Te) : Option (Int) :=
 Jo (cmp_Compare_int a0.From a1.From) fun t9 =>
 Jo (cmp_Compare_int a0.To a1.To) fun t14 =>
 Jo (Jd2 ([t9, t14] : List Int)) fun t16 =>
 some t16
def Z0 (a0 : (List Te)) (next1 : ((Int) → Option (Bool))) (x3_2 : Int) : Option (Bool) :=
 J6 (decide (x3_2 < (a0.length : Int))) (Jo (Vh a0 x3_2) fun t12 =>
 Jo (gI (x3_2 - 1)) fun t17 =>
 Jo (Vh a0 t17) fun t18 =>
 J6 (decide (t12.From < t18.To)) (some true) (Jo (gI (x3_2 + 1)) fun t9 =>
 next1 t9)) (some false)
def Jei (a0 : (List Te)) : Option (Bool) :=
 Z8 (fun next1 s => Z0 a0 next1 s) 1
def Jam (t22 : Int) (l_2 : (List (List Ta))) (t72 : ((List Te))) (m_7 : Int) : Option (Tg × (List Te) × Int) :=
 J6 (decide (m_7 ≠ 0)) (some ((⟨false, ([] : List (List Ta))⟩ : Tg), ([] : List Te), m_7)) (some ((⟨(decide (t22 = 77)), l_2⟩ : Tg), t72, 0))
def Ul (t22 : Int) (l_2 : (List (List Ta))) (t72 : ((List Te))) (m_6 : Int) : Option (Tg × (List Te) × Int) :=
 J6 (decide (m_6 = 0)) (Jo (Vt (⟨(decide (t22 = 77)), l_2⟩ : Tg)) fun t95 =>
 Jam t22 l_2 t72 t95) (Jam t22 l_2 t72 m_6)
def Ur (t22 : Int) (m : (List UInt8)) (m_2 : Bool) (m_3 : Int) (m_4 : Nat) (m_5 : Int) (l : (List Te)) (l_2 : (List (List Ta))) (mp : (List (Int × Bool))) : Option (Tg × (List Te) × Int) :=
 Jo (Jg8 l Qu) fun t72 =>
 J6 (decide (m_5 = 0)) (Jo (Jei t72) fun t83 =>
 J6 t83 (Ul t22 l_2 t72 6) (Ul t22 l_2 t72 m_5)) (Ul t22 l_2 t72 m_5)
def Uo (t22 : Int) (next4 : ((Int × (List UInt8) × Bool × Int × Nat × Int × (List Te) × (List (List Ta)) × (List (Int × Bool))) → Option (Tg × (List Te) × Int))) (x9_2 : Int) (m_13 : (List UInt8)) (m_14 : Bool) (m_15 : Int) (m_16 : Nat) (m_17 : Int) (l_5 : (List Te)) (l_6 : (List (List Ta))) (mp_3 : (List (Int × Bool))) : Option (Tg × (List Te) × Int) :=
 J6 (decide (x9_2 ≠ 0)) (J6 (decide (m_17 = 0)) (Jo (gI (m_15 + 1)) fun t48 =>
 Jo (V1 (⟨m_13, m_14, l_5, mp_3, t48, m_16, m_17⟩ : Tb) x9_2 ([(l_6.length : Int)] : List Int)) fun t58 =>
 Jo (Xk 24 l_6 ([t58.1] : List (List Ta))) fun l65 =>
 next4 (t58.2.1, t58.2.2.s_, t58.2.2.kab, t58.2.2.kad, t58.2.2.kac, t58.2.2.no_, t58.2.2.kaa, l65, t58.2.2.kae)) (Ur t22 m_13 m_14 m_15 m_16 m_17 l_5 l_6 mp_3)) (Ur t22 m_13 m_14 m_15 m_16 m_17 l_5 l_6 mp_3)
def Je2 (a0 : (List UInt8)) (a1 : Nat) : Option (Tg × (List Te) × Int) :=
 J6 (decide (65000 < (a0.length : Int))) (some ((⟨false, ([] : List (List Ta))⟩ : Tg), ([] : List Te), 4)) (Jo (Jcw a0) fun t17 =>
 J6 (!t17) (some ((⟨false, ([] : List (List Ta))⟩ : Tg), ([] : List Te), 8)) (Jo (Zp a0 0) fun t22 =>
 Jo (Jn (⟨a0, (decide (t22 = 77)), ([] : (List Te)), ([] : (List (Int × Bool))), 0, a1, 0⟩ : Tb) 4 4) fun t34 =>
 Z8 (fun next4 s => Uo t22 next4 s.1 s.2.1 s.2.2.1 s.2.2.2.1 s.2.2.2.2.1 s.2.2.2.2.2.1 s.2.2.2.2.2.2.1 s.2.2.2.2.2.2.2.1 s.2.2.2.2.2.2.2.2) (t34, a0, (decide (t22 = 77)), 0, a1, 0, ([] : List Te), ([] : List (List Ta)), ([] : (List (Int × Bool))))))
def Jbd (a0 : (List UInt8)) : Option (Tg × Int) :=
 Jo (Je2 a0 0) fun t9 =>
 some (t9.1, t9.2.2)
def Ww (a1 : Int) (x14_2 : Int) (l_2 : (List Int)) (next1 : ((Int × (List Int)) → Option ((List Int)))) (x9 : Int) : Option ((List Int)) :=
 Jo (gI (8 * x14_2)) fun t27 =>
 Jo (gShr 64 a1 t27) fun t28 =>
 Jo (Vh l_2 x9) fun t30 =>
 Jo (gSet l_2 x9 (wU8 t28)) fun l0 =>
 Jo (gI (x14_2 + 1)) fun t31 =>
 next1 (t31, l0)
def Xq (a0 : Bool) (a1 : Int) (a2 : Int) (t11 : (List Int)) (next1 : ((Int × (List Int)) → Option ((List Int)))) (x14_2 : Int) (l_2 : (List Int)) : Option ((List Int)) :=
 J6 (decide (x14_2 < (t11.length : Int))) (J6 a0 (Jo (gI (a2 - 1)) fun t20 =>
 Jo (gI (t20 - x14_2)) fun t22 =>
 Ww a1 x14_2 l_2 next1 t22) (Ww a1 x14_2 l_2 next1 x14_2)) (some l_2)
def Jl (a0 : Bool) (a1 : Int) (a2 : Int) : Option ((List Int)) :=
 Jo (gMake 1 a2 0) fun t11 =>
 Z8 (fun next1 s => Xq a0 a1 a2 t11 next1 s.1 s.2) (0, t11)
def V5 (a0 : Tf) (a1 : Int) (a2 : Int) : Option (Tf) :=
 Jo (Yw a0.kak a1 a0.kak.length) fun t11 =>
 Jo (Jl a0.kab a2 4) fun t17 =>
 some (⟨a0.kab, (cpyL a0.kak a1 t11.length t17)⟩ : Tf)
def W5 (a0 : Tf) (l : (List Int)) : Option (Int × Tf) :=
 some ((l.length : Int), (⟨a0.kab, l⟩ : Tf))
def Ub (a0 : Tf) : Option (Int × Tf) :=
 Jo (gRem (a0.kak.length : Int) 2) fun t8 =>
 J6 (decide (t8 ≠ 0)) (Jo (Xk 1 a0.kak ([0] : List Int)) fun l16 =>
 W5 a0 l16) (W5 a0 a0.kak)
def Vo (a0 : Bool) (a1 : Tc) (next2 : ((Int × (List Int)) → Option ((List Int)))) (x43_2 : Int) (l_3 : (List Int)) : Option ((List Int)) :=
 J6 (decide (x43_2 < (a1.kag.length : Int))) (Jo (Vh a1.kag x43_2) fun t45 =>
 Jo (Jl a0 t45.Num 4) fun t51 =>
 Jo (Xk 1 l_3 t51) fun l52 =>
 Jo (Jl a0 t45.Den 4) fun t57 =>
 Jo (Xk 1 l52 t57) fun l58 =>
 Jo (gI (x43_2 + 1)) fun t59 =>
 next2 (t59, l58)) (some l_3)
def Jbb (a0 : Bool) (a1 : Tc) (l : (List Int)) : Option ((List Int)) :=
 Z8 (fun next2 s => Vo a0 a1 next2 s.1 s.2) (0, l)
def Vp (a0 : Bool) (a1 : Tc) (next3 : ((Int × (List Int)) → Option ((List Int)))) (x27_2 : Int) (l_5 : (List Int)) : Option ((List Int)) :=
 J6 (decide (x27_2 < (a1.kaj.length : Int))) (Jo (Vh a1.kaj x27_2) fun t29 =>
 Jo (Zr a1.kah) fun t36 =>
 Jo (Jl a0 t29 t36) fun t37 =>
 Jo (Xk 1 l_5 t37) fun l38 =>
 Jo (gI (x27_2 + 1)) fun t39 =>
 next3 (t39, l38)) (Jbb a0 a1 l_5)
def Y3 (a0 : Bool) (a1 : Tc) : Option ((List Int)) :=
 J6 (decide (a1.kah = 2)) (Jo (gByt a1.kai) fun t16 =>
 Jo (Xk 1 t16 ([0] : List Int)) fun l18 =>
 some l18) (J6 (decide (a1.kah = 7)) (Jo (gByt a1.kai) fun t23 =>
 some t23) (Z8 (fun next3 s => Vp a0 a1 next3 s.1 s.2) (0, ([] : List Int))))
def Jcg (t15 : (Int × Tf)) (l : (List Int)) (m : Bool) (l_2 : (List Int)) : Option (Int × Int × Tf) :=
 some (t15.1, (l.length : Int), (⟨m, l_2⟩ : Tf))
def Z3 (x110_2 : Int) (next3 : ((Int × Bool × (List Int)) → Option (Int × Int × Tf))) (m_4 : Bool) (l_5 : (List Int)) : Option (Int × Int × Tf) :=
 Jo (gI (x110_2 + 1)) fun t169 =>
 next3 (t169, m_4, l_5)
def Yu (a1 : (List Ta)) (self : (Tf × (List Ta)) → Option (Int × Int × Tf)) (t15 : (Int × Tf)) (l : (List Int)) (next3 : ((Int × Bool × (List Int)) → Option (Int × Int × Tf))) (x110_2 : Int) (m_3 : Bool) (l_4 : (List Int)) : Option (Int × Int × Tf) :=
 J6 (decide (x110_2 < (a1.length : Int))) (Jo (Vh a1 x110_2) fun t113 =>
 Jo (gI (t15.1 + 2)) fun t116 =>
 Jo (gI (12 * x110_2)) fun t118 =>
 Jo (gI (t116 + t118)) fun t119 =>
 Jo (gI (t119 + 8)) fun t120 =>
 J6 (decide (t113.Value.kah = 13)) (Jo (self ((⟨m_3, l_4⟩ : Tf), t113.Value.kaf)) fun t130 =>
 Jo (V5 t130.2.2 t120 t130.1) fun t136 =>
 Z3 x110_2 next3 t136.kab t136.kak) (Jo (Y3 m_3 t113.Value) fun t143 =>
 J6 (decide ((t143.length : Int) ≤ 4)) (Jo (Yw l_4 t120 l_4.length) fun t152 =>
 Z3 x110_2 next3 m_3 (cpyL l_4 t120 t152.length t143)) (Jo (Ub (⟨m_3, l_4⟩ : Tf)) fun t158 =>
 Jo (V5 t158.2 t120 t158.1) fun t159 =>
 Jo (Xk 1 t159.kak t143) fun l166 =>
 Z3 x110_2 next3 t159.kab l166))) (Jcg t15 l m_3 l_4)
def Wo (a1 : (List Ta)) (self : (Tf × (List Ta)) → Option (Int × Int × Tf)) (t15 : (Int × Tf)) (l : (List Int)) : Option (Int × Int × Tf) :=
 Jo (Xk 1 l ([0, 0, 0, 0] : List Int)) fun l105 =>
 Z8 (fun next3 s => Yu a1 self t15 l next3 s.1 s.2.1 s.2.2) (0, t15.2.kab, l105)
def X7 (a1 : (List Ta)) (self : (Tf × (List Ta)) → Option (Int × Int × Tf)) (t15 : (Int × Tf)) (next5 : ((Int × (List Int)) → Option (Int × Int × Tf))) (x33_2 : Int) (l_7 : (List Int)) : Option (Int × Int × Tf) :=
 J6 (decide (x33_2 < (a1.length : Int))) (Jo (Vh a1 x33_2) fun t35 =>
 Jo (Jl t15.2.kab t35.Tag 2) fun t48 =>
 Jo (Xk 1 l_7 t48) fun l49 =>
 Jo (Jl t15.2.kab t35.Value.kah 2) fun t64 =>
 Jo (Xk 1 l49 t64) fun l65 =>
 Jo (Zf t35.Value) fun t79 =>
 Jo (Jl t15.2.kab t79 4) fun t80 =>
 Jo (Xk 1 l65 t80) fun l81 =>
 Jo (Xk 1 l81 ([0, 0, 0, 0] : List Int)) fun l90 =>
 Jo (gI (x33_2 + 1)) fun t93 =>
 next5 (t93, l90)) (Wo a1 self t15 l_7)
def X3 (self : (Tf × (List Ta)) → Option (Int × Int × Tf)) (a0 : Tf) (a1 : (List Ta)) : Option (Int × Int × Tf) :=
 Jo (Ub a0) fun t15 =>
 Jo (Jl t15.2.kab (a1.length : Int) 2) fun t27 =>
 Jo (Xk 1 t15.2.kak t27) fun l28 =>
 Z8 (fun next5 s => X7 a1 self t15 next5 s.1 s.2) (0, l28)
def Jb4 (a0 : Tf) (a1 : (List Ta)) : Option (Int × Int × Tf) :=
 Z8 (fun (self : (Tf × (List Ta)) → Option (Int × Int × Tf)) (s : Tf × (List Ta)) => X3 self s.1 s.2) (a0, a1)
def Jdw (m : Bool) (l_2 : (List Int)) : Option ((List UInt8)) :=
 some (W2 l_2)
def Z1 (a0 : Tg) (next3 : ((Int × Int × Bool × (List Int)) → Option ((List UInt8)))) (x4_2 : Int) (x50_2 : Int) (m_3 : Bool) (l_4 : (List Int)) : Option ((List UInt8)) :=
 J6 (decide (x50_2 < (a0.kal.length : Int))) (Jo (Vh a0.kal x50_2) fun t52 =>
 Jo (Jb4 (⟨m_3, l_4⟩ : Tf) t52) fun t57 =>
 Jo (V5 t57.2.2 x4_2 t57.1) fun t63 =>
 Jo (gI (x50_2 + 1)) fun t65 =>
 next3 (t57.2.1, t65, t63.kab, t63.kak)) (Jdw m_3 l_4)
def Jao (a0 : Tg) (l : (List Int)) : Option ((List UInt8)) :=
 Jo (Jl a0.Big 42 2) fun t29 =>
 Jo (gApN 1 l t29) fun l30 =>
 Jo (Xk 1 l30 ([0, 0, 0, 0] : List Int)) fun l44 =>
 Z8 (fun next3 s => Z1 a0 next3 s.1 s.2.1 s.2.2.1 s.2.2.2) ((l30.length : Int), 0, a0.Big, l44)
def Jec (a0 : Tg) : Option ((List UInt8)) :=
 J6 a0.Big (Jao a0 ([77, 77] : List Int)) (Jao a0 ([73, 73] : List Int))
def Z4 (a0 : Tg) : Option ((List UInt8) × Int) :=
 Jo (Vt a0) fun t6 =>
 J6 (decide (t6 ≠ 0)) (some ([], t6)) (Jo (Jec a0) fun t11 =>
 some (t11, 0))
def Je7 (a0 : Tg) : Option (Int × Int) :=
 Jo (Vt a0) fun t6 =>
 J6 (decide (t6 ≠ 0)) (some (0, t6)) (Jo (Jf7 a0) fun t11 =>
 some (t11, 0))
def Jcz (a0 : Tg) (a1 : (List UInt8)) : Option (Bool) :=
 Jo (Jbe) fun t18 =>
 J6 (!t18) (some false) (Jo (Jbd a1) fun t22 =>
 J6 (decide (t22.2 = 0)) (Jo (Z4 t22.1) fun t30 =>
 J6 (decide (t30.2 ≠ 0)) (Jo (Vt t22.1) fun t37 =>
 some (decide (t30.2 = t37))) (Jo (Jbd t30.1) fun t41 =>
 Jo (Z4 t41.1) fun t46 =>
 Jo (Je7 t22.1) fun t51 =>
 J6 (decide (t41.2 ≠ 0)) (some false) (J6 (decide (t46.2 ≠ 0)) (some false) (J6 (decide (t51.2 ≠ 0)) (some false) (J6 (decide (t46.1 ≠ t30.1)) (some false) (J6 (decide (t51.1 ≠ (t30.1.length : Int))) (some false) (Jo (Je1 t22.1) fun t77 =>
 J6 (decide (t77.2 ≠ 0)) (some (decide (t77.2 = 4))) (Jo (Wg t77.1) fun t86 =>
 Jo (Z4 t86.1) fun t92 =>
 J6 (decide (t86.2.2 = 0)) (J6 (decide (t86.2.1 = 0)) (J6 (decide (t92.2 = 0)) (some (decide (t92.1 = t30.1))) (some false)) (some false)) (some false))))))))) (Jo (Z4 a0) fun t30_2 =>
 J6 (decide (t30_2.2 ≠ 0)) (Jo (Vt a0) fun t37_2 =>
 some (decide (t30_2.2 = t37_2))) (Jo (Jbd t30_2.1) fun t41_2 =>
 Jo (Z4 t41_2.1) fun t46_2 =>
 Jo (Je7 a0) fun t51_2 =>
 J6 (decide (t41_2.2 ≠ 0)) (some false) (J6 (decide (t46_2.2 ≠ 0)) (some false) (J6 (decide (t51_2.2 ≠ 0)) (some false) (J6 (decide (t46_2.1 ≠ t30_2.1)) (some false) (J6 (decide (t51_2.1 ≠ (t30_2.1.length : Int))) (some false) (Jo (Je1 a0) fun t77_2 =>
 J6 (decide (t77_2.2 ≠ 0)) (some (decide (t77_2.2 = 4))) (Jo (Wg t77_2.1) fun t86_2 =>
 Jo (Z4 t86_2.1) fun t92_2 =>
 J6 (decide (t86_2.2.2 = 0)) (J6 (decide (t86_2.2.1 = 0)) (J6 (decide (t92_2.2 = 0)) (some (decide (t92_2.1 = t30_2.1))) (some false)) (some false)) (some false))))))))))
end
end Go.M

namespace Go.Proofs
open Go.Shelf
def Tryz.sortFP_ren : Go.Shelf.Ren := ⟨fun | 6 => 60 | 15 => 107 | 14 => 106 | 28 => 159 | 29 => 160 | 20 => 151 | 21 => 152 | 22 => 153 | 23 => 154 | 24 => 155 | 25 => 156 | 26 => 157 | 27 => 158 | 46 => 179 | 47 => 180 | 48 => 181 | 49 => 182 | 50 => 183 | 57 => 193 | n => n, fun | 22 => 73 | 24 => 118 | 25 => 119 | 3 => 3 | 39 => 136 | 0 => 0 | 53 => 167 | 55 => 170 | 4 => 4 | 46 => 194 | 45 => 193 | 50 => 98 | 5 => 5 | 9 => 9 | 66 => 215 | 70 => 219 | 76 => 234 | 77 => 125 | n => n, fun | n => n⟩
theorem Tryz.sortFP : Go.Proofs.SlLaysF0.n6 Tryz.prog Tryz.sortFP_ren := {
 mixed := by kernel_rfl
 f6 := ⟨Tryz.f60.name, by decide, Tryz.func60.trans (congrArg some (by kernel_rfl))⟩
 f14 := ⟨Tryz.f106.name, by decide, Tryz.func106.trans (congrArg some (by kernel_rfl))⟩
 f15 := Tryz.func107.trans (congrArg some (by kernel_rfl))
 f20 := ⟨Tryz.f151.name, by decide, Tryz.func151.trans (congrArg some (by kernel_rfl))⟩
 f21 := ⟨Tryz.f152.name, by decide, Tryz.func152.trans (congrArg some (by kernel_rfl))⟩
 f22 := ⟨Tryz.f153.name, by decide, Tryz.func153.trans (congrArg some (by kernel_rfl))⟩
 f23 := ⟨Tryz.f154.name, by decide, Tryz.func154.trans (congrArg some (by kernel_rfl))⟩
 f24 := ⟨Tryz.f155.name, by decide, Tryz.func155.trans (congrArg some (by kernel_rfl))⟩
 f25 := ⟨Tryz.f156.name, by decide, Tryz.func156.trans (congrArg some (by kernel_rfl))⟩
 f26 := ⟨Tryz.f157.name, by decide, Tryz.func157.trans (congrArg some (by kernel_rfl))⟩
 f27 := ⟨Tryz.f158.name, by decide, Tryz.func158.trans (congrArg some (by kernel_rfl))⟩
 f28 := Tryz.func159.trans (congrArg some (by kernel_rfl))
 f29 := Tryz.func160.trans (congrArg some (by kernel_rfl))
 f46 := ⟨Tryz.f179.name, by decide, Tryz.func179.trans (congrArg some (by kernel_rfl))⟩
 f47 := Tryz.func180.trans (congrArg some (by kernel_rfl))
 f48 := Tryz.func181.trans (congrArg some (by kernel_rfl))
 f49 := ⟨Tryz.f182.name, by decide, Tryz.func182.trans (congrArg some (by kernel_rfl))⟩
 f50 := ⟨Tryz.f183.name, by decide, Tryz.func183.trans (congrArg some (by kernel_rfl))⟩
 f57 := ⟨Tryz.f193.name, by decide, Tryz.func193.trans (congrArg some (by kernel_rfl))⟩
 t0 := Tryz.underlying0
 a0 := Tryz.isAgg0
 z0 := Tryz.sizeOf0
 v0 := Tryz.zeroValue0
 t3 := Tryz.underlying3
 a3 := Tryz.isAgg3
 z3 := Tryz.sizeOf3
 v3 := Tryz.zeroValue3
 t4 := Tryz.underlying4
 a4 := Tryz.isAgg4
 z4 := Tryz.sizeOf4
 v4 := Tryz.zeroValue4
 t5 := Tryz.underlying5
 a5 := Tryz.isAgg5
 z5 := Tryz.sizeOf5
 v5 := Tryz.zeroValue5
 t9 := Tryz.underlying9
 a9 := Tryz.isAgg9
 z9 := Tryz.sizeOf9
 v9 := Tryz.zeroValue9
 t22 := Tryz.underlying73
 a22 := Tryz.isAgg73
 z22 := Tryz.sizeOf73
 v22 := Tryz.zeroValue73
 t25 := Tryz.underlying119
 a25 := Tryz.isAgg119
 z25 := Tryz.sizeOf119
 v25 := Tryz.zeroValue119
 t39 := Tryz.underlying136
 a39 := Tryz.isAgg136
 z39 := Tryz.sizeOf136
 v39 := Tryz.zeroValue136
 t45 := Tryz.underlying193
 a45 := Tryz.isAgg193
 z45 := Tryz.sizeOf193
 v45 := Tryz.zeroValue193
 t46 := Tryz.underlying194
 a46 := Tryz.isAgg194
 z46 := Tryz.sizeOf194
 v46 := Tryz.zeroValue194
 t50 := Tryz.underlying98
 a50 := Tryz.isAgg98
 z50 := Tryz.sizeOf98
 v50 := Tryz.zeroValue98
 t53 := Tryz.underlying167
 a53 := Tryz.isAgg167
 z53 := Tryz.sizeOf167
 v53 := Tryz.zeroValue167
 t55 := Tryz.underlying170
 a55 := Tryz.isAgg170
 z55 := Tryz.sizeOf170
 v55 := Tryz.zeroValue170
 t66 := Tryz.underlying215
 a66 := Tryz.isAgg215
 z66 := Tryz.sizeOf215
 v66 := Tryz.zeroValue215
 t70 := Tryz.underlying219
 a70 := Tryz.isAgg219
 z70 := Tryz.sizeOf219
 v70 := Tryz.zeroValue219
 t76 := Tryz.underlying234
 a76 := Tryz.isAgg234
 z76 := Tryz.sizeOf234
 v76 := Tryz.zeroValue234
 t77 := Tryz.underlying125
 a77 := Tryz.isAgg125
 z77 := Tryz.sizeOf125
 v77 := Tryz.zeroValue125 }
def Tryz.cmpI109_ren : Go.Shelf.Ren := ⟨fun | 5 => 109 | 7 => 161 | n => n, fun | 22 => 3 | 3 => 3 | 4 => 4 | n => n, fun | n => n⟩
theorem Tryz.cmpI109 : Go.Proofs.SlLaysC2.n5 Tryz.prog Tryz.cmpI109_ren := {
 mixed := by kernel_rfl
 f5 := ⟨Tryz.f109.name, by decide, Tryz.func109.trans (congrArg some (by kernel_rfl))⟩
 f7 := ⟨Tryz.f161.name, by decide, Tryz.func161.trans (congrArg some (by kernel_rfl))⟩
 t3 := Tryz.underlying3
 a3 := Tryz.isAgg3
 z3 := Tryz.sizeOf3
 v3 := Tryz.zeroValue3
 t4 := Tryz.underlying4
 a4 := Tryz.isAgg4
 z4 := Tryz.sizeOf4
 v4 := Tryz.zeroValue4
 t22 := Tryz.underlying3
 a22 := Tryz.isAgg3
 z22 := Tryz.sizeOf3
 v22 := Tryz.zeroValue3 }
end Go.Proofs

namespace Go.Vc
open Go
abbrev Xc := Nat → Value
def upd (e : Xc) (d : Nat) (v : Value) : Xc := fun t => bif Nat.beq t d then v else e t
def ev (e : Xc) : Operand → Value
 | .tmp t => e t
 | .const v => v
 | .global g => .pointer (some ⟨g, 0, none⟩)
 | .func f => .func (.func f) #[] #[]
structure Sim (n : Nat) (a : Act) (e : Xc) : Prop where
 defers : a.defers = []
 size : a.tmps.size = n
 val : ∀ t, a.tmps.getD t undef = e t
theorem Sim.ev {n : Nat} {a : Act} {e : Xc} (h : Sim n a e) : a.eval = ev e := by
 funext o
 cases o <;> simp [Act.eval, Vc.ev, h.val]
theorem beq_eq (a b : Nat) : Nat.beq a b = decide (a = b) := by
 rw [Bool.eq_iff_iff]; simp [Nat.beq_eq]
theorem upd_same (e : Xc) (d : Nat) (v : Value) : upd e d v d = v := by simp [upd]
theorem upd_ne (e : Xc) (d t : Nat) (v : Value) (h : t ≠ d) : upd e d v t = e t := by simp [upd, beq_eq, h]
theorem Sim.put {n : Nat} {a : Act} {e : Xc} (h : Sim n a e) {d : Nat} (hd : Nat.blt d n = true) (v : Value) : Sim n (a.put (some d) v) (upd e d v) := by
 have hd' : d < n := by simpa using hd
 refine ⟨h.defers, by simp [Act.put, h.size], fun t => ?_⟩
 have ht := h.val t
 by_cases htd : t = d
 ·subst htd
  rw [upd_same]
  simp [Act.put, Array.getD_eq_getD_getElem?, h.size, hd']
 ·rw [upd_ne _ _ _ _ htd, ← ht]
  simp only [Act.put, Array.getD_eq_getD_getElem?]
  rw [Array.getElem?_setIfInBounds]
  have : ¬ d = t := fun e => htd e.symm
  simp [this]
def lget : List Value → Xc
 | [], _ => undef
 | v :: _, 0 => v
 | _ :: l, t + 1 => lget l t
theorem lget_eq (l : List Value) (t : Nat) : lget l t = l.getD t undef := by
 induction l generalizing t with
 | nil => simp [lget]
 | cons v l ih => cases t <;> simp [lget, ih]
def Grow (w w' : World) : Prop := Go.RowKit.Below w.heap.size w w'
theorem Grow.refl (w : World) : Grow w w := Go.RowKit.Below.refl _ _
theorem Grow.trans {a b c : World} (h : Grow a b) (k : Grow b c) : Grow a c := Go.RowKit.Below.trans h (Go.RowKit.Below.mono k h.size)
structure Chunk where
 P : (Nat → Prop) → World → Prop
 loc : ∀ S w w', (∀ b, S b → w'.heap[b]? = w.heap[b]?) → P S w → P S w'
structure Cx where
 w0 : World
 S0 : Nat → Prop
def Cx.own (cx : Cx) (b : Nat) : Prop := cx.w0.heap.size ≤ b ∨ cx.S0 b
structure Fr (cx : Cx) (w : World) : Prop where
 os : w.os = cx.w0.os
 tape : w.tape = cx.w0.tape
 output : w.output = cx.w0.output
 size : cx.w0.heap.size ≤ w.heap.size
 block : ∀ b, ¬ cx.own b → w.heap[b]? = cx.w0.heap[b]?
structure Sat (cx : Cx) (w : World) (L : List Chunk) : Prop where
 out : ∃ fp : Nat → Nat → Prop, (∀ (i : Nat) (c : Chunk), L[i]? = some c → c.P (fp i) w) ∧ (∀ i b, fp i b → i < L.length ∧ b < w.heap.size ∧ cx.own b) ∧ (∀ i j b, fp i b → fp j b → i = j)
theorem Fr.refl (w : World) (S0 : Nat → Prop) : Fr ⟨w, S0⟩ w := ⟨rfl, rfl, rfl, Nat.le_refl _, fun _ _ => rfl⟩
theorem Fr.grow {cx : Cx} {w w' : World} (h : Fr cx w) (g : Grow w w') : Fr cx w' := by
 refine ⟨g.os.trans h.os, g.tape.trans h.tape, g.output.trans h.output, Nat.le_trans h.size g.size, fun b hb => ?_⟩
 have hlt : b < w.heap.size := by
  have : ¬ cx.w0.heap.size ≤ b := fun hh => hb (.inl hh)
  have := h.size
  omega
 rw [g.block b hlt, h.block b hb]
theorem Sat.grow {cx : Cx} {w w' : World} {L : List Chunk} (h : Sat cx w L) (g : Grow w w') : Sat cx w' L := by
 obtain ⟨fp, h1, h2, h3⟩ := h.out
 refine ⟨fp, fun i c hc => c.loc _ _ _ (fun b hb => g.block b (h2 i b hb).2.1) (h1 i c hc), fun i b hb => ?_, h3⟩
 obtain ⟨a1, a2, a3⟩ := h2 i b hb
 exact ⟨a1, Nat.lt_of_lt_of_le a2 g.size, a3⟩
theorem Sat.nil (cx : Cx) (w : World) : Sat cx w [] := ⟨fun _ _ => False, by simp, fun _ _ h => h.elim, fun _ _ _ h => h.elim⟩
theorem Sat.snoc {cx : Cx} {w w' : World} {L : List Chunk} {c : Chunk} {S : Nat → Prop} (h : Sat cx w L) (hf : Fr cx w) (g : Grow w w') (hc : c.P S w')
  (hS : ∀ b, S b → w.heap.size ≤ b ∧ b < w'.heap.size) : Sat cx w' (L ++ [c]) := by
 obtain ⟨fp, k1, h2, h3⟩ := h.out
 have h1 : ∀ (i : Nat) (c : Chunk), L[i]? = some c → c.P (fp i) w' := fun i c hc => c.loc _ _ _ (fun b hb => g.block b (h2 i b hb).2.1) (k1 i c hc)
 refine ⟨fun i b => (i < L.length ∧ fp i b) ∨ (i = L.length ∧ S b), ?_, ?_, ?_⟩
 ·intro i d hd
  by_cases hi : i < L.length
  ·have : (fun b => (i < L.length ∧ fp i b) ∨ (i = L.length ∧ S b)) = fp i := by
    funext b; apply propext; constructor
    ·rintro (⟨_, h⟩ | ⟨h, _⟩)
     ·exact h
     ·omega
    ·exact fun h => .inl ⟨hi, h⟩
   show d.P (fun b => (i < L.length ∧ fp i b) ∨ (i = L.length ∧ S b)) w'
   rw [this]
   exact h1 i d (by simpa [List.getElem?_append_left hi] using hd)
  ·have hle : L.length ≤ i := by omega
   rw [List.getElem?_append_right hle] at hd
   have hi0 : i - L.length = 0 := by
    by_cases h0 : i - L.length = 0
    ·exact h0
    ·obtain ⟨k, hk⟩ : ∃ k, i - L.length = k + 1 := ⟨i - L.length - 1, by omega⟩
     rw [hk] at hd; simp at hd
   have hil : i = L.length := by omega
   rw [hi0] at hd
   simp at hd
   subst hd
   have : (fun b => (i < L.length ∧ fp i b) ∨ (i = L.length ∧ S b)) = S := by
    funext b; apply propext; constructor
    ·rintro (⟨h, _⟩ | ⟨_, h⟩)
     ·omega
     ·exact h
    ·exact fun h => .inr ⟨hil, h⟩
   show c.P (fun b => (i < L.length ∧ fp i b) ∨ (i = L.length ∧ S b)) w'
   rw [this]
   exact hc
 ·rintro i b (⟨hi, hb⟩ | ⟨hi, hb⟩)
  ·obtain ⟨a1, a2, a3⟩ := h2 i b hb
   exact ⟨by simp; omega, Nat.lt_of_lt_of_le a2 g.size, a3⟩
  ·obtain ⟨a1, a2⟩ := hS b hb
   exact ⟨by simp; omega, a2, .inl (Nat.le_trans hf.size a1)⟩
 ·rintro i j b (⟨hi, hb⟩ | ⟨hi, hb⟩) (⟨hj, hb'⟩ | ⟨hj, hb'⟩)
  ·exact h3 i j b hb hb'
  ·have := (h2 i b hb).2.1; have := (hS b hb').1; omega
  ·have := (h2 j b hb').2.1; have := (hS b hb).1; omega
  ·omega
theorem Sat.set {cx : Cx} {w w' : World} {L : List Chunk} {i : Nat} {c c' : Chunk} (h : Sat cx w L) (hf : Fr cx w) (hi : L[i]? = some c)
  (hs : w.heap.size ≤ w'.heap.size)
  (hc : ∀ S : Nat → Prop, c.P S w → (∀ b, S b → b < w.heap.size ∧ cx.own b) → ∃ S' : Nat → Prop, c'.P S' w' ∧ (∀ b, S' b → b < w'.heap.size ∧ (S b ∨ w.heap.size ≤ b)) ∧ ∀ b, b < w.heap.size → ¬ S b → w'.heap[b]? = w.heap[b]?) :
  Sat cx w' (L.set i c') := by
 obtain ⟨fp, h1, h2, h3⟩ := h.out
 obtain ⟨S', k1, k2, k3⟩ := hc (fp i) (h1 i c hi) (fun b hb => (h2 i b hb).2)
 have hil : i < L.length := by
  rcases Nat.lt_or_ge i L.length with h | h
  ·exact h
  ·simp [List.getElem?_eq_none h] at hi
 refine ⟨fun j b => if j = i then S' b else fp j b, ?_, ?_, ?_⟩
 ·intro j d hd
  by_cases hji : j = i
  ·subst hji
   simp [List.getElem?_set_self hil] at hd
   subst hd
   simpa using k1
  ·rw [List.getElem?_set_ne (fun e => hji e.symm)] at hd
   simp only [hji, if_false]
   exact d.loc _ _ _ (fun b hb => k3 b (h2 j b hb).2.1 (fun hib => hji (h3 j i b hb hib))) (h1 j d hd)
 ·intro j b hb
  by_cases hji : j = i
  ·simp only [hji, if_true] at hb
   refine ⟨by simp [hji, hil], (k2 b hb).1, ?_⟩
   rcases (k2 b hb).2 with h | h
   ·exact (h2 i b h).2.2
   ·exact .inl (Nat.le_trans hf.size h)
  ·simp only [hji, if_false] at hb
   obtain ⟨a1, a2, a3⟩ := h2 j b hb
   exact ⟨by simpa using a1, by omega, a3⟩
 ·intro j k b hj hk
  by_cases hji : j = i <;> by_cases hki : k = i <;> simp only [hji, hki, if_true, if_false] at hj hk
  ·omega
  ·obtain ⟨_, a2, _⟩ := h2 k b hk
   rcases (k2 b hj).2 with h | h
   ·exact absurd (h3 k i b hk h) hki
   ·omega
  ·obtain ⟨_, a2, _⟩ := h2 j b hj
   rcases (k2 b hk).2 with h | h
   ·exact absurd (h3 j i b hj h) hji
   ·omega
  ·exact h3 j k b hj hk
theorem Sat.select {cx : Cx} {w : World} {L L' : List Chunk} (h : Sat cx w L) (sel : List Nat) (hnd : sel.Nodup) (hs : sel.map (fun i => L[i]?) = L'.map some) : Sat cx w L' := by
 obtain ⟨fp, h1, h2, h3⟩ := h.out
 have hlen : sel.length = L'.length := by simpa using congrArg List.length hs
 refine ⟨fun k b => ∃ i, sel[k]? = some i ∧ fp i b, ?_, ?_, ?_⟩
 ·intro k c hc
  have hk : (sel.map (fun i => L[i]?))[k]? = (L'.map some)[k]? := by rw [hs]
  simp only [List.getElem?_map, hc, Option.map_some] at hk
  cases hsk : sel[k]? with
  | none => simp [hsk] at hk
  | some i =>
   simp [hsk] at hk
   have : (fun b => ∃ j, some i = some j ∧ fp j b) = fp i := by
    funext b; apply propext; constructor
    ·rintro ⟨j, hj, hb⟩; cases hj; exact hb
    ·exact fun hb => ⟨i, rfl, hb⟩
   show c.P (fun b => ∃ j, sel[k]? = some j ∧ fp j b) w
   rw [hsk, this]
   exact h1 i c hk
 ·rintro k b ⟨i, hi, hb⟩
  have hkl : k < sel.length := by
   rcases Nat.lt_or_ge k sel.length with h | h
   ·exact h
   ·simp [List.getElem?_eq_none h] at hi
  exact ⟨by omega, (h2 i b hb).2⟩
 ·rintro k k' b ⟨i, hi, hb⟩ ⟨i', hi', hb'⟩
  have := h3 i i' b hb hb'
  subst this
  have hkl : k < sel.length := by
   rcases Nat.lt_or_ge k sel.length with h | h
   ·exact h
   ·simp [List.getElem?_eq_none h] at hi
  have hkl' : k' < sel.length := by
   rcases Nat.lt_or_ge k' sel.length with h | h
   ·exact h
   ·simp [List.getElem?_eq_none h] at hi'
  have hp := List.pairwise_iff_getElem.1 hnd
  rw [List.getElem?_eq_getElem hkl] at hi
  rw [List.getElem?_eq_getElem hkl'] at hi'
  rcases Nat.lt_trichotomy k k' with h | h | h
  ·exact absurd ((Option.some.inj hi).trans (Option.some.inj hi').symm) (hp k k' hkl hkl' h)
  ·exact h
  ·exact absurd ((Option.some.inj hi').trans (Option.some.inj hi).symm) (hp k' k hkl' hkl h)
structure At (cx : Cx) (K : Xc → World → Prop) (e : Xc) (L : List Chunk) : Prop where
 out : ∀ w, Fr cx w → Sat cx w L → K e w
abbrev Jae := Exit → Xc → World → Prop
def lift (n : Nat) (Q : Jae) : Exit → Act → World → Prop := fun x a w => ∃ e, Sim n a e ∧ Q x e w
structure WC (P : Program) (n : Nat) (c : Code) (Q : Jae) (e : Xc) (w : World) : Prop where
 out : ∀ a, Sim n a e → c.wp P (lift n Q) a w
structure WL (P : Program) (n : Nat) (ops : Array Oper) (Q : Jae) (l : List Oper) (e : Xc) (w : World) : Prop where
 out : ∀ a, Sim n a e → wpList P ops (lift n Q) l a w
def ThenQ (K : Xc → World → Prop) (Q : Jae) : Jae
 | .normal, e, w => K e w
 | .exit i, e, w => Q (.exit i) e w
 | .goto l, e, w => Q (.goto l) e w
 | .ret, e, w => Q .ret e w
 | .panic c, e, w => Q (.panic c) e w
 | .outgrown, e, w => Q .outgrown e w
def BlockQ (id : Nat) (Q : Jae) : Jae
 | .normal, e, w => Q .normal e w
 | .exit i, e, w => bif Nat.beq i id then Q .normal e w else Q (.exit i) e w
 | .goto l, e, w => Q (.goto l) e w
 | .ret, e, w => Q .ret e w
 | .panic c, e, w => Q (.panic c) e w
 | .outgrown, e, w => Q .outgrown e w
section rules
variable {P : Program} {n : Nat} {cx : Cx} {Q : Jae} {e : Xc} {L : List Chunk}
theorem Jc {x y : Code} (h : At cx (WC P n x (ThenQ (WC P n y Q) Q)) e L) : At cx (WC P n (.seq x y) Q) e L :=
 ⟨fun w hF hS => ⟨fun a ha => wp_seq (Code.wp_mono (fun x' a' w' hq => by
  obtain ⟨e', hs, hq⟩ := hq
  cases x' <;> first | exact ⟨e', hs, hq⟩ | exact WC.out hq a' hs) ((h.out w hF hS).out a ha))⟩⟩
theorem Jj (h : At cx (Q .normal) e L) : At cx (WC P n .skip Q) e L :=
 ⟨fun w hF hS => ⟨fun _ ha => wp_skip ⟨e, ha, h.out w hF hS⟩⟩⟩
theorem Jh (h : At cx (Q .ret) e L) : At cx (WC P n .ret Q) e L :=
 ⟨fun w hF hS => ⟨fun _ ha => wp_ret ⟨e, ha, h.out w hF hS⟩⟩⟩
theorem Qo {id : Nat} (h : At cx (Q (.exit id)) e L) : At cx (WC P n (.exit id) Q) e L :=
 ⟨fun w hF hS => ⟨fun _ ha => wp_exit ⟨e, ha, h.out w hF hS⟩⟩⟩
theorem Jq {id : Nat} {c : Code} (h : At cx (WC P n c (BlockQ id Q)) e L) : At cx (WC P n (.block id c) Q) e L :=
 ⟨fun w hF hS => ⟨fun a ha => wp_block (Code.wp_mono (fun x' a' w' hq => by
  obtain ⟨e', hs, hq⟩ := hq
  cases x' with
  | exit i =>
   simp only [Exit.inBlock, lift]
   by_cases hi : i = id
   ·simp only [hi, if_true]
    have hb : Nat.beq id id = true := by simp
    have hq' : (bif Nat.beq i id then Q .normal e' w' else Q (.exit i) e' w') := hq
    rw [hi, hb] at hq'
    exact ⟨e', hs, hq'⟩
   ·have hb : Nat.beq i id = false := by simp [beq_eq, hi]
    have hq' : (bif Nat.beq i id then Q .normal e' w' else Q (.exit i) e' w') := hq
    rw [hb] at hq'
    simp only [hi, if_false]
    exact ⟨e', hs, hq'⟩
  | normal => exact ⟨e', hs, hq⟩
  | goto l => exact ⟨e', hs, hq⟩
  | ret => exact ⟨e', hs, hq⟩
  | panic c => exact ⟨e', hs, hq⟩
  | outgrown => exact ⟨e', hs, hq⟩) ((h.out w hF hS).out a ha))⟩⟩
theorem Jd0 {c : Operand} {x y : Code} {b : Bool} (hc : ev e c = .bool b) (ht : b = true → At cx (WC P n x Q) e L) (hf : b = false → At cx (WC P n y Q) e L) :
  At cx (WC P n (.cond c x y) Q) e L :=
 ⟨fun w hF hS => ⟨fun a ha => wp_cond_split (by rw [ha.ev]; exact hc) (fun hb => ((ht hb).out w hF hS).out a ha) (fun hb => ((hf hb).out w hF hS).out a ha)⟩⟩
theorem Y4 {c : Operand} {x y : Code} (hc : ev e c = .bool true) (ht : At cx (WC P n x Q) e L) : At cx (WC P n (.cond c x y) Q) e L :=
 Jd0 hc (fun _ => ht) (fun h => by cases h)
theorem Zq {c : Operand} {x y : Code} (hc : ev e c = .bool false) (hf : At cx (WC P n y Q) e L) : At cx (WC P n (.cond c x y) Q) e L :=
 Jd0 hc (fun h => by cases h) (fun _ => hf)
theorem Ja {id : Nat} {l : List Oper} (h : At cx (WL P n l.toArray Q l) e L) : At cx (WC P n (.region id l.toArray false) Q) e L :=
 ⟨fun w hF hS => ⟨fun a ha => wp_region_lit ((h.out w hF hS).out a ha)⟩⟩
theorem Jd {ops : Array Oper} (h : At cx (Q .normal) e L) : At cx (WL P n ops Q []) e L :=
 ⟨fun w hF hS => ⟨fun _ ha => wpList_nil ⟨e, ha, h.out w hF hS⟩⟩⟩
end rules
def Jfy (P : Program) (fn : Func) (R : Value → World → Prop) : Jae
 | .normal, e, w | .ret, e, w => ∀ tmps : Array Value, (∀ t, tmps.getD t undef = e t) → ∃ v, (results fn tmps).run P w = .ok v w ∧ R v w
 | _, _, _ => False
def Does (P : Program) (f : FuncId) (args : Array Value) (w : World) (R : Value → World → Prop) : Prop :=
 Calls P f args w fun en w' => ∃ v, en = .returned v ∧ R v w'
theorem Does.mono {P : Program} {f : FuncId} {args : Array Value} {w : World} {R R' : Value → World → Prop} (h : Does P f args w R) (hr : ∀ v w', R v w' → R' v w') : Does P f args w R' :=
 Calls.mono h fun _ _ ⟨v, he, hv⟩ => ⟨v, he, hr _ _ hv⟩
theorem getD_args (args : List Value) (k t : Nat) : (args.toArray ++ Array.replicate k undef).getD t undef = lget args t := by
 rw [lget_eq, Array.getD_eq_getD_getElem?, Array.getElem?_append]
 split
 ·simp [List.getD_eq_getElem?_getD]
 ·rename_i h
  have h' : args.length ≤ t := by simpa using h
  rw [List.getD_eq_getElem?_getD, List.getElem?_eq_none h']
  rw [Array.getElem?_replicate]
  split <;> rfl
theorem enter {P : Program} {f : FuncId} {fn : Func} {c : Code} {args : List Value} {n : Nat} {w : World} {R : Value → World → Prop} (hf : P.funcs[f]? = some fn) (hb : fn.body = some c) (hn : fn.ntmps = n) (hle : Nat.ble args.length n = true)
  (S0 : Nat → Prop) (L : List Chunk) (hL : Sat ⟨w, S0⟩ w L) (h : At ⟨w, S0⟩ (WC P n c (Jfy P fn R)) (lget args) L) : Does P f args.toArray w R := by
 refine calls_of_wp hf hb ?_
 refine Code.wp_mono ?_ ((h.out w (Fr.refl w S0) hL).out _ ⟨rfl, ?_, ?_⟩)
 ·rintro x a w' ⟨e, hs, hq⟩
  cases x with
  | normal =>
   obtain ⟨v, hr, hR⟩ := hq a.tmps hs.val
   exact ⟨hs.defers, v, hr, v, rfl, hR⟩
  | ret =>
   obtain ⟨v, hr, hR⟩ := hq a.tmps hs.val
   exact ⟨hs.defers, v, hr, v, rfl, hR⟩
  | exit i => exact hq.elim
  | goto i => exact hq.elim
  | panic i => exact hq.elim
  | outgrown => exact hq.elim
 ·have hle' : args.length ≤ n := by simpa using hle
  simp only [hn, Array.size_append, List.size_toArray, Array.size_replicate]
  omega
 ·intro t
  exact getD_args args _ t
end Go.Vc

namespace Go.Vc
open Go
def Xt (ops : Array Oper) (o : Oper) (e : Xc) : Bool :=
 match o.guard with
 | none => true
 | some (j, b) => match (ops[j]?).bind (·.dst) with
  | none => false
  | some d => match e d, b with
   | .bool true, b => b
   | .bool false, true => false
   | .bool false, false => true
   | _, _ => false
theorem Jfm {n : Nat} {a : Act} {e : Xc} (h : Sim n a e) (ops : Array Oper) (o : Oper) : Region.wanted o (yielded ops a.tmps) = Xt ops o e := by
 unfold Region.wanted Xt
 cases hg : o.guard with
 | none => rfl
 | some jb =>
  obtain ⟨j, b⟩ := jb
  simp only [yielded]
  cases hd : (ops[j]?).bind (·.dst) with
  | none => rfl
  | some d =>
   simp only [Option.bind_some]
   have hv := h.val d
   rw [Array.getD_eq_getD_getElem?] at hv
   cases ht : a.tmps[d]? with
   | none =>
    rw [ht] at hv
    simp only [Option.getD_none] at hv
    rw [← hv]
    rfl
   | some v =>
    rw [ht] at hv
    simp only [Option.getD_some] at hv
    rw [← hv]
    cases v <;> first | rfl | (rename_i x; cases x <;> cases b <;> rfl)
section rules
variable {P : Program} {n : Nat} {cx : Cx} {Q : Jae} {e : Xc} {L : List Chunk} {ops : Array Oper} {rest : List Oper}
theorem J9 {o : Oper} {d : Nat} (hw : Xt ops o e = false) (hd : o.dst = some d) (hn : Nat.blt d n = true) (k : At cx (WL P n ops Q rest) (upd e d undef) L) : At cx (WL P n ops Q (o :: rest)) e L :=
 ⟨fun w hF hS => ⟨fun a ha => by
  unfold wpList
  rw [Jfm ha, hw]
  rw [hd]
  exact (k.out w hF hS).out _ (ha.put hn undef)⟩⟩
theorem Jd6 {o : Oper} {d : Nat} (hw : Xt ops o e = true) (hd : o.dst = some d) (hn : Nat.blt d n = true)
  (h : ∀ w, Fr cx w → Sat cx w L → ∃ v w', (execOp (ev e) o).run P w = .ok (.value v) w' ∧ WL P n ops Q rest (upd e d v) w') : At cx (WL P n ops Q (o :: rest)) e L :=
 ⟨fun w hF hS => ⟨fun a ha => by
  obtain ⟨v, w', hr, hk⟩ := h w hF hS
  unfold wpList
  rw [Jfm ha, hw, if_pos rfl]
  refine .inl ?_
  unfold Oper.wp
  rw [ha.ev, hr]
  show wpList P ops (lift n Q) rest (a.put o.dst v) w'
  rw [hd]
  exact hk.out _ (ha.put hn v)⟩⟩
theorem l_acts {o : Oper} (hw : Xt ops o e = true) (hd : o.dst = none)
  (h : ∀ w, Fr cx w → Sat cx w L → ∃ w', (execOp (ev e) o).run P w = .ok .skip w' ∧ WL P n ops Q rest e w') : At cx (WL P n ops Q (o :: rest)) e L :=
 ⟨fun w hF hS => ⟨fun a ha => by
  obtain ⟨w', hr, hk⟩ := h w hF hS
  unfold wpList
  rw [Jfm ha, hw, if_pos rfl]
  refine .inl ?_
  unfold Oper.wp
  rw [ha.ev, hr]
  show wpList P ops (lift n Q) rest (a.put o.dst undef) w'
  rw [hd]
  exact hk.out _ ha⟩⟩
theorem l_calls {o : Oper} {d : Nat} {f : FuncId} {args : Array Value} (hw : Xt ops o e = true) (hd : o.dst = some d) (hn : Nat.blt d n = true)
  (hr : ∀ w, (execOp (ev e) o).run P w = .ok (.enter f args) w)
  (h : ∀ w, Fr cx w → Sat cx w L → Does P f args w fun v w' => WL P n ops Q rest (upd e d v) w') : At cx (WL P n ops Q (o :: rest)) e L :=
 ⟨fun w hF hS => ⟨fun a ha => by
  unfold wpList
  rw [Jfm ha, hw, if_pos rfl]
  refine .inl ?_
  unfold Oper.wp
  rw [ha.ev, hr]
  show Calls P f args w _
  refine Calls.mono (h w hF hS) ?_
  rintro en w' ⟨v, rfl, hk⟩
  show wpList P ops (lift n Q) rest (a.put o.dst v) w'
  rw [hd]
  exact hk.out _ (ha.put hn v)⟩⟩
theorem Jf {o : Oper} {d : Nat} {v : Value} (hw : Xt ops o e = true) (hd : o.dst = some d) (hn : Nat.blt d n = true)
  (hr : ∀ w, (execOp (ev e) o).run P w = .ok (.value v) w) (k : At cx (WL P n ops Q rest) (upd e d v) L) : At cx (WL P n ops Q (o :: rest)) e L :=
 Jd6 hw hd hn fun w hF hS => ⟨v, w, hr w, k.out w hF hS⟩
section ops
variable {d : Option Nat} {ty : TypeId} {pos : String} {af : Array Edge} {g : Option (Nat × Bool)}
theorem Jx {X : Operand} {v : Value} (hx : ev e X = v) (w : World) :
  (execOp (ev e) ⟨d, .move X, ty, pos, af, g⟩).run P w = .ok (.value v) w :=
 by subst hx; rfl
theorem Jr {X : Operand} {v : Value} (hx : ev e X = v) (w : World) :
  (execOp (ev e) ⟨d, .assign X, ty, pos, af, g⟩).run P w = .ok (.value v) w :=
 by subst hx; rfl
theorem Jah {c A B : Operand} {v : Value} (hc : ev e c = .bool true) (hx : ev e A = v) (w : World) :
  (execOp (ev e) ⟨d, .pick c A B, ty, pos, af, g⟩).run P w = .ok (.value v) w :=
 by subst hx; simp [execOp, hc, asBool]
theorem Jbm {c A B : Operand} {v : Value} (hc : ev e c = .bool false) (hx : ev e B = v) (w : World) :
  (execOp (ev e) ⟨d, .pick c A B, ty, pos, af, g⟩).run P w = .ok (.value v) w :=
 by subst hx; simp [execOp, hc, asBool]
theorem split {K : Xc → World → Prop} {b : Bool} {d : Nat} (ht : b = true → At cx K (upd e d (.bool true)) L) (hf : b = false → At cx K (upd e d (.bool false)) L) : At cx K (upd e d (.bool b)) L := by
 cases b
 ·exact hf rfl
 ·exact ht rfl
theorem Jb8 {X : Operand} {b : Bool} {t : TypeId} (hx : ev e X = .bool b) (w : World) :
  (execOp (ev e) ⟨d, .unOp .not t X, ty, pos, af, g⟩).run P w = .ok (.value (.bool (!b))) w :=
 by simp [execOp, hx, Op.unary]
section bin
variable {X Y : Operand} {x y : Int} {t t' : TypeId} {kd : IntKind}
theorem Jkx (w : World) (op : BinOp) : (eqGuard op t X Y (.int kd x) (.int kd y)).run P w = .ok () w := by
 unfold eqGuard; cases op <;> rfl
theorem Je4 {op : BinOp} {v : Value} (hx : ev e X = .int kd x) (hy : ev e Y = .int kd y)
  (hr : ∀ w, (binOp op t (.int kd x) (.int kd y)).run P w = .ok v w) (w : World) :
  (execOp (ev e) ⟨d, .binOp op t X Y t', ty, pos, af, g⟩).run P w = .ok (.value v) w :=
 by simp [execOp, hx, hy, Jkx, hr]
theorem r_add (hx : ev e X = .int .i64 x) (hy : ev e Y = .int .i64 y)
  (hr : -9223372036854775808 ≤ x + y ∧ x + y ≤ 9223372036854775807) (w : World) :
  (execOp (ev e) ⟨d, .binOp .add t X Y t', ty, pos, af, g⟩).run P w = .ok (.value (.int .i64 (x + y))) w :=
 Je4 hx hy (fun w => by simp [binOp, Op.intArith, IntWalk.i64_in _ hr]) w
theorem r_sub (hx : ev e X = .int .i64 x) (hy : ev e Y = .int .i64 y)
  (hr : -9223372036854775808 ≤ x - y ∧ x - y ≤ 9223372036854775807) (w : World) :
  (execOp (ev e) ⟨d, .binOp .sub t X Y t', ty, pos, af, g⟩).run P w = .ok (.value (.int .i64 (x - y))) w :=
 Je4 hx hy (fun w => by simp [binOp, Op.intArith, IntWalk.i64_in _ hr]) w
theorem r_mul (hx : ev e X = .int .i64 x) (hy : ev e Y = .int .i64 y)
  (hr : -9223372036854775808 ≤ x * y ∧ x * y ≤ 9223372036854775807) (w : World) :
  (execOp (ev e) ⟨d, .binOp .mul t X Y t', ty, pos, af, g⟩).run P w = .ok (.value (.int .i64 (x * y))) w :=
 Je4 hx hy (fun w => by simp [binOp, Op.intArith, IntWalk.i64_in _ hr]) w
theorem r_rem (hx : ev e X = .int kd x) (hy : ev e Y = .int kd y)
  (hy0 : y ≠ 0) (w : World) :
  (execOp (ev e) ⟨d, .binOp .rem t X Y t', ty, pos, af, g⟩).run P w = .ok (.value (.int kd (x.tmod y))) w :=
 Je4 hx hy (fun w => by simp [binOp, Op.intDiv, hy0]) w
theorem Yh (hx : ev e X = .int kd x) (hy : ev e Y = .int kd y) (w : World) :
  (execOp (ev e) ⟨d, .binOp .lss t X Y t', ty, pos, af, g⟩).run P w = .ok (.value (.bool (decide (x < y)))) w :=
 Je4 hx hy (fun w => by simp [binOp, Op.intCmp]) w
theorem r_leq (hx : ev e X = .int kd x) (hy : ev e Y = .int kd y) (w : World) :
  (execOp (ev e) ⟨d, .binOp .leq t X Y t', ty, pos, af, g⟩).run P w = .ok (.value (.bool (decide (x ≤ y)))) w :=
 Je4 hx hy (fun w => by simp [binOp, Op.intCmp]) w
theorem Va (hx : ev e X = .int kd x) (hy : ev e Y = .int kd y) (w : World) :
  (execOp (ev e) ⟨d, .binOp .gtr t X Y t', ty, pos, af, g⟩).run P w = .ok (.value (.bool (decide (y < x)))) w :=
 Je4 hx hy (fun w => by simp [binOp, Op.intCmp]) w
theorem Jhf (hx : ev e X = .int kd x) (hy : ev e Y = .int kd y) (w : World) :
  (execOp (ev e) ⟨d, .binOp .geq t X Y t', ty, pos, af, g⟩).run P w = .ok (.value (.bool (decide (y ≤ x)))) w :=
 Je4 hx hy (fun w => by simp [binOp, Op.intCmp]) w
theorem Qg (hx : ev e X = .int kd x) (hy : ev e Y = .int kd y) (w : World) :
  (execOp (ev e) ⟨d, .binOp .eql t X Y t', ty, pos, af, g⟩).run P w = .ok (.value (.bool (decide (x = y)))) w :=
 Je4 hx hy (fun w => by simp [binOp, Op.intCmp]; rfl) w
theorem Zm (hx : ev e X = .int kd x) (hy : ev e Y = .int kd y) (w : World) :
  (execOp (ev e) ⟨d, .binOp .neq t X Y t', ty, pos, af, g⟩).run P w = .ok (.value (.bool (decide (x ≠ y)))) w :=
 Je4 hx hy (fun w => by simp [binOp, Op.intCmp, bne]; rfl) w
end bin
theorem Jk {X : Operand} {ix : Nat} {vs : Array Value} {v : Value} (hx : ev e X = .tuple vs) (hv : vs[ix]? = some v) (w : World) :
  (execOp (ev e) ⟨d, .extract X ix, ty, pos, af, g⟩).run P w = .ok (.value v) w :=
 by simp [execOp, hx, Instr.extract, hv]
theorem r_min {X Y : Operand} {x y : Int} {kd : IntKind} {tys : Array TypeId}
  (hx : ev e X = .int kd x) (hy : ev e Y = .int kd y) (w : World) :
  (execOp (ev e) ⟨d, .call ⟨.builtin .min, #[X, Y], tys⟩, ty, pos, af, g⟩).run P w = .ok (.value (.int kd (min x y))) w :=
 by
  have : (if y < x then y else x) = min x y := by rw [Int.min_def]; split <;> split <;> omega
  simp [execOp, resolve, invoke, builtin, hx, hy, Builtin.min_, Builtin.min2, this]
theorem r_max {X Y : Operand} {x y : Int} {kd : IntKind} {tys : Array TypeId}
  (hx : ev e X = .int kd x) (hy : ev e Y = .int kd y) (w : World) :
  (execOp (ev e) ⟨d, .call ⟨.builtin .max, #[X, Y], tys⟩, ty, pos, af, g⟩).run P w = .ok (.value (.int kd (max x y))) w :=
 by
  have : (if y > x then y else x) = max x y := by rw [Int.max_def]; split <;> split <;> omega
  simp [execOp, resolve, invoke, builtin, hx, hy, Builtin.max_, Builtin.max2]; simpa using this
theorem Xh {t : TypeId} {parts : Array (Nat × Operand)} {fs : Array Field} {pl : Array (Nat × Nat)} {z cells : Array Value} {ps : List (Nat × Value)}
  (hz : ∀ w, (zeroValue t).run P w = .ok (.agg z) w) (hu : ∀ w, (underlying t).run P w = .ok (.struct fs) w)
  (hpl : ∀ w, (fs.mapM fun f => do pure (f.offset, ← sizeOf f.type) : Sem (Array (Nat × Nat))).run P w = .ok pl w)
    
  (hps : parts.toList.map (fun (i, x) => (i, ev e x)) = ps) (hf : Instr.fill (pl[·]?) z ps = some cells) (w : World) :
  (execOp (ev e) ⟨d, .build t parts, ty, pos, af, g⟩).run P w = .ok (.value (.agg cells)) w :=
 by
  have hz' : (Value.agg z).cells = z := rfl
  have hps' : (parts.map fun (i, x) => (i, ev e x)).toList = ps := by rw [← hps, Array.toList_map]
  simp only [execOp, Instr.build, Sem.run_bind, hz, hu, Result.andThen_ok, hpl, hps', hz', hf, Sem.run_pure]
end ops
end rules
end Go.Vc

namespace Go.Vc
open Go
def Ji (b : Nat) (cs : List Value) (T : TypeId) : Chunk where
 P S w := (∀ x, S x ↔ x = b) ∧ w.heap[b]? = some (.cells cs.toArray T (0, 0))
 loc S w w' h hp := ⟨hp.1, by rw [h b ((hp.1 b).2 rfl)]; exact hp.2⟩
def rdn : List Value → Nat → Option (List Value)
 | _, 0 => some []
 | [], _ + 1 => none
 | v :: r, k + 1 => (rdn r k).map (v :: ·)
def rd : List Value → Nat → Nat → Option (List Value)
 | cs, 0, k => rdn cs k
 | [], _ + 1, k => rdn [] k
 | _ :: r, o + 1, k => rd r o k
def wrn : List Value → List Value → Option (List Value)
 | cs, [] => some cs
 | [], _ :: _ => none
 | _ :: r, v :: vs => (wrn r vs).map (v :: ·)
def wr : List Value → Nat → List Value → Option (List Value)
 | cs, 0, vs => wrn cs vs
 | [], _ + 1, [] => some []
 | [], _ + 1, _ :: _ => none
 | c :: r, o + 1, vs => (wr r o vs).map (c :: ·)
def rg : List Value → Nat → Option Value
 | [], _ => none
 | v :: _, 0 => some v
 | _ :: r, k + 1 => rg r k
theorem rg_eq : ∀ (cs : List Value) (k : Nat), rg cs k = cs[k]?
 | [], _ => by simp [rg]
 | v :: r, 0 => by simp [rg]
 | v :: r, k + 1 => by simp [rg, rg_eq r k]
theorem rdn_get {cs : List Value} : ∀ {k : Nat} {vs : List Value}, rdn cs k = some vs → vs.length = k ∧ ∀ (j : Nat) (v : Value), vs[j]? = some v → cs[j]? = some v := by
 induction cs with
 | nil => intro k vs h; cases k <;> simp [rdn] at h; subst h; exact ⟨rfl, by simp⟩
 | cons c r ih =>
  intro k vs h
  cases k with
  | zero => simp [rdn] at h; subst h; exact ⟨rfl, by simp⟩
  | succ k =>
   simp only [rdn, Option.map_eq_some_iff] at h
   obtain ⟨x, hx, rfl⟩ := h
   obtain ⟨h1, h2⟩ := ih hx
   refine ⟨by simp [h1], fun j v hv => ?_⟩
   cases j with
   | zero => simpa using hv
   | succ j => simp at hv ⊢; exact h2 j v hv
theorem Jh9 {cs : List Value} {o k : Nat} {vs : List Value} (h : rd cs o k = some vs) : vs.length = k ∧ ∀ (j : Nat) (v : Value), vs[j]? = some v → cs[o + j]? = some v := by
 induction cs generalizing o with
 | nil =>
  cases o with
  | zero => simpa using rdn_get h
  | succ o =>
   obtain ⟨h1, h2⟩ := rdn_get (cs := []) (by simpa [rd] using h)
   exact ⟨h1, fun j v hv => by have := h2 j v hv; simp at this⟩
 | cons c r ih =>
  cases o with
  | zero => simpa using rdn_get h
  | succ o =>
   obtain ⟨h1, h2⟩ := ih (o := o) (by simpa [rd] using h)
   exact ⟨h1, fun j v hv => by have := h2 j v hv; rw [show o + 1 + j = (o + j) + 1 from by omega]; simpa using this⟩
theorem wrn_eq {cs vs cs' : List Value} (h : wrn cs vs = some cs') : vs.length ≤ cs.length ∧ cs' = vs ++ cs.drop vs.length := by
 induction vs generalizing cs cs' with
 | nil => cases cs <;> simp [wrn] at h <;> subst h <;> simp
 | cons v vs ih =>
  cases cs with
  | nil => simp [wrn] at h
  | cons c r =>
   simp only [wrn, Option.map_eq_some_iff] at h
   obtain ⟨x, hx, rfl⟩ := h
   obtain ⟨h1, h2⟩ := ih hx
   exact ⟨by simp; omega, by simp [h2]⟩
theorem wr_eq {cs vs cs' : List Value} {o : Nat} (h : wr cs o vs = some cs') (hne : 0 < vs.length) : o + vs.length ≤ cs.length ∧ cs' = cs.take o ++ vs ++ cs.drop (o + vs.length) := by
 induction cs generalizing o cs' with
 | nil =>
  cases o with
  | zero => obtain ⟨h1, h2⟩ := wrn_eq (cs := []) (by simpa [wr] using h); simp at h1; simp [h1] at hne
  | succ o => cases vs <;> simp [wr] at h hne
 | cons c r ih =>
  cases o with
  | zero => obtain ⟨h1, h2⟩ := wrn_eq (cs := c :: r) (by simpa [wr] using h); exact ⟨by simpa using h1, by simp [h2]⟩
  | succ o =>
   simp only [wr, Option.map_eq_some_iff] at h
   obtain ⟨x, hx, rfl⟩ := h
   obtain ⟨h1, h2⟩ := ih hx
   refine ⟨by simp; omega, ?_⟩
   rw [show o + 1 + vs.length = (o + vs.length) + 1 from by omega]
   simp [h2]
theorem Jbq (w : World) (o : Obj) : Grow w (w.alloc o) := Go.RowKit.Below.alloc (Go.RowKit.Below.refl _ _) (Nat.le_refl _) o
theorem Jgx {P : Program} (t : TypeId) (v : Value) (w : World) : (newVar t v).run P w = .ok ⟨w.heap.size, 0, none⟩ (w.alloc (.cells v.cells t)) := by
 simp [newVar, newRow, newObj, Sem.run]
section rules
variable {P : Program} {n : Nat} {cx : Cx} {Q : Jae} {e : Xc} {L : List Chunk} {ops : Array Oper} {rest : List Oper}
variable {d : Nat} {ty : TypeId} {pos : String} {af : Array Edge} {g : Option (Nat × Bool)}
theorem sat_new {w : World} (hF : Fr cx w) (hS : Sat cx w L) (cs : List Value) (T : TypeId) : Sat cx (w.alloc (.cells cs.toArray T)) (L ++ [Ji w.heap.size cs T]) :=
 hS.snoc hF (Jbq w _) (S := fun x => x = w.heap.size) ⟨fun _ => Iff.rfl, heap_alloc_new w _⟩ (fun b hb => by subst hb; exact ⟨Nat.le_refl _, by simp⟩)
theorem Jat {T : TypeId} {X : Operand} {x : Value} {cs : List Value} (hw : Xt ops ⟨some d, .box T X, ty, pos, af, g⟩ e = true) (hn : Nat.blt d n = true) (hx : ev e X = x) (hc : x.cells.toList = cs)
  (k : ∀ b, At cx (WL P n ops Q rest) (upd e d (.pointer (some ⟨b, 0, none⟩))) (L ++ [Ji b cs T])) : At cx (WL P n ops Q (⟨some d, .box T X, ty, pos, af, g⟩ :: rest)) e L :=
 Jd6 hw rfl hn fun w hF hS => ⟨.pointer (some ⟨w.heap.size, 0, none⟩), w.alloc (.cells cs.toArray T), by
  subst hc
  simp [execOp, Instr.box, Jgx, hx], (k w.heap.size).out _ (hF.grow (Jbq w _)) (sat_new hF hS cs T)⟩
theorem Q2 {T : TypeId} {z : Value} {cs : List Value} (hz : ∀ w, (zeroValue T).run P w = .ok z w) (hc : z.cells.toList = cs) (hw : Xt ops ⟨some d, .alloc T, ty, pos, af, g⟩ e = true) (hn : Nat.blt d n = true)
  (k : ∀ b, At cx (WL P n ops Q rest) (upd e d (.pointer (some ⟨b, 0, none⟩))) (L ++ [Ji b cs T])) : At cx (WL P n ops Q (⟨some d, .alloc T, ty, pos, af, g⟩ :: rest)) e L :=
 Jd6 hw rfl hn fun w hF hS => ⟨.pointer (some ⟨w.heap.size, 0, none⟩), w.alloc (.cells cs.toArray T), by
  subst hc
  simp [execOp, Instr.alloc, hz, Jgx], (k w.heap.size).out _ (hF.grow (Jbq w _)) (sat_new hF hS cs T)⟩
theorem Xf {w : World} {i b : Nat} {cs : List Value} {T : TypeId} (hS : Sat cx w L) (hL : L[i]? = some (Ji b cs T)) : w.heap[b]? = some (.cells cs.toArray T (0, 0)) := by
 obtain ⟨fp, h1, _, _⟩ := hS.out
 exact (h1 i _ hL).2
theorem Jdq {w : World} {b o : Nat} {cs : List Value} {T : TypeId} (h : w.heap[b]? = some (.cells cs.toArray T (0, 0))) : w.cell? ⟨b, o, none⟩ = cs[o]? := by
 simp [World.cell?, h]
theorem Wb {T k b o : Nat} {vs : List Value} {w : World} (hA : ∀ w, (isAgg T).run P w = .ok true w) (hs : ∀ w, (sizeOf T).run P w = .ok k w) (hl : vs.length = k)
  (h : ∀ j v, vs[j]? = some v → w.cell? ⟨b, o + j, none⟩ = some v) : (loadVar T ⟨b, o, none⟩).run P w = .ok (.agg vs.toArray) w := by
 subst hl
 have := run_loadCells_list (P := P) (w := w) ⟨b, o, none⟩ vs (fun j v hv => by rw [Addr.add_lit]; exact h j v hv)
 simp [loadVar, hA, hs, this]
theorem Jbl {T b o : Nat} {v : Value} {w : World} (hA : ∀ w, (isAgg T).run P w = .ok false w) (h : w.cell? ⟨b, o, none⟩ = some v) : (loadVar T ⟨b, o, none⟩).run P w = .ok v w := by
 simp [loadVar, hA, Go.load, Sem.run, h]
theorem Ws {i : Nat} {T T0 b o : Nat} {A : Operand} {cs : List Value} {v : Value} (hA : ∀ w, (isAgg T).run P w = .ok false w)
  (hw : Xt ops ⟨some d, .load T A, ty, pos, af, g⟩ e = true) (hn : Nat.blt d n = true) (hp : ev e A = .pointer (some ⟨b, o, none⟩)) (hL : L[i]? = some (Ji b cs T0)) (hv : rg cs o = some v)
  (k : At cx (WL P n ops Q rest) (upd e d v) L) : At cx (WL P n ops Q (⟨some d, .load T A, ty, pos, af, g⟩ :: rest)) e L :=
 Jd6 hw rfl hn fun w hF hS => ⟨v, w, by
  have hc := Jdq (o := o) (Xf hS hL)
  rw [← rg_eq, hv] at hc
  simp [execOp, Instr.loadAt, Instr.sureAddr, hp, Jbl hA hc], k.out w hF hS⟩
theorem Qq {i : Nat} {T T0 b o sz : Nat} {A : Operand} {cs vs : List Value} (hA : ∀ w, (isAgg T).run P w = .ok true w) (hs : ∀ w, (sizeOf T).run P w = .ok sz w)
  (hw : Xt ops ⟨some d, .load T A, ty, pos, af, g⟩ e = true) (hn : Nat.blt d n = true) (hp : ev e A = .pointer (some ⟨b, o, none⟩)) (hL : L[i]? = some (Ji b cs T0)) (hv : rd cs o sz = some vs)
  (k : At cx (WL P n ops Q rest) (upd e d (.agg vs.toArray)) L) : At cx (WL P n ops Q (⟨some d, .load T A, ty, pos, af, g⟩ :: rest)) e L :=
 Jd6 hw rfl hn fun w hF hS => ⟨.agg vs.toArray, w, by
  obtain ⟨h1, h2⟩ := Jh9 hv
  have hr := Wb (P := P) (w := w) (b := b) (o := o) hA hs h1 (fun j v hj => by rw [Jdq (Xf hS hL)]; exact h2 j v hj)
  simp [execOp, Instr.loadAt, Instr.sureAddr, hp, hr], k.out w hF hS⟩
theorem Xl {i : Nat} {T T0 b o sz : Nat} {A X : Operand} {x : Value} {cs cs' vs : List Value} (hs : ∀ w, (sizeOf T).run P w = .ok sz w)
  (hw : Xt ops ⟨none, .store T A X, ty, pos, af, g⟩ e = true) (hp : ev e A = .pointer (some ⟨b, o, none⟩)) (hx : ev e X = x) (hc : x.cells.toList = vs) (hsz : vs.length = sz) (hpos : Nat.blt 0 sz = true)
  (hone : vs.all Value.oneCell' = true)
  (hL : L[i]? = some (Ji b cs T0)) (hv : wr cs o vs = some cs')
  (k : At cx (WL P n ops Q rest) e (L.set i (Ji b cs' T0))) : At cx (WL P n ops Q (⟨none, .store T A X, ty, pos, af, g⟩ :: rest)) e L :=
 l_acts hw rfl fun w hF hS => by
  have hb := Xf hS hL
  have hpos' : 0 < vs.length := by rw [hsz]; simpa using hpos
  obtain ⟨h1, h2⟩ := wr_eq hv hpos'
  have hst := run_storeCells_at P b o T0 vs 0 cs.toArray w hb (by simpa using h1) (by simpa using hone)
  refine ⟨w.setRow b cs'.toArray, ?_, ?_⟩
  ·have hsz' : x.cells.size = sz := by rw [← hsz, ← hc]; simp
   simp only [Nat.add_zero, List.append_assoc] at hst
   simp only [execOp, Instr.storeAt, Instr.sureAddr, storeVar, hp, hx, Sem.run_bind, Sem.run_pure, Result.andThen_ok, hs, hsz', ne_eq, not_true_eq_false, if_false, hc, hst]
   rw [h2]; simp
  ·have hset := setRow_heap w b cs.toArray cs'.toArray T0 (0, 0) hb
   refine k.out _ ⟨hF.os, hF.tape, hF.output, by simpa using hF.size, fun c hcn => ?_⟩ ?_
   ·rw [setRow_other w b c _ (fun e => ?_)]
    ·exact hF.block c hcn
    ·obtain ⟨fp, f1, f2, _⟩ := hS.out
     have := (f2 i b ((f1 i _ hL).1 b |>.2 rfl)).2.2
     subst e
     exact hcn this
   ·refine hS.set hF hL (by simp) fun S hSp hSo => ⟨S, ⟨hSp.1, hset⟩, fun c hc => ⟨by simpa using (hSo c hc).1, .inl hc⟩, fun c _ hcS => setRow_other w b c _ (fun e => hcS ((hSp.1 c).2 e))⟩
theorem J0 {d : Option Nat} {T fld b o fo ft fsz bo : Nat} {nm tg pk : String} {em : Bool} {X : Operand} {fs : Array Field} (hu : ∀ w, (underlying T).run P w = .ok (.struct fs) w)
  (hf : fs[fld]? = some ⟨nm, ft, fo, em, tg, pk, bo⟩) (hs : ∀ w, (sizeOf ft).run P w = .ok fsz w) (hsz : Nat.blt 0 fsz = true) (hp : ev e X = .pointer (some ⟨b, o, none⟩)) (w : World) :
  (execOp (ev e) ⟨d, .fieldAddr T X fld, ty, pos, af, g⟩).run P w = .ok (.value (.pointer (some ⟨b, o + fo, none⟩))) w := by
 have hne : fsz ≠ 0 := by have : 0 < fsz := by simpa using hsz
                          omega
 simp [execOp, Instr.fieldAt, hu, hf, Instr.sureAddr, hp, fieldPlace, hs, hne, Addr.add_lit]
def Ret (P : Program) (f : FuncId) (args : List Value) (v : Value) : Prop := ∀ w, Does P f args.toArray w fun v' w' => v' = v ∧ Grow w w'
theorem Jez {f : FuncId} {A : Array Operand} {tys : Array TypeId} {args : List Value} (hc : ∀ args w, (callFunc f args).run P w = .ok (.enter f args) w) (ha : A.toList.map (ev e) = args) (w : World) :
  (execOp (ev e) ⟨some d, .call ⟨.value (.func f), A, tys⟩, ty, pos, af, g⟩).run P w = .ok (.enter f args.toArray) w := by
 subst ha
 have : (A.toList.map (ev e)).toArray = A.map (ev e) := by rw [← Array.toList_map, Array.toArray_toList]
 rw [this]
 simp only [execOp, resolve, ev, Deferred.ofValue, Sem.run_bind, Sem.run_pure, Result.andThen_ok, invoke, hc, Array.append_empty, Array.empty_append]
theorem Qk {f : FuncId} {A : Array Operand} {tys : Array TypeId} {args : List Value} {v : Value} (h : Ret P f args v) (hc : ∀ args w, (callFunc f args).run P w = .ok (.enter f args) w)
  (hw : Xt ops ⟨some d, .call ⟨.value (.func f), A, tys⟩, ty, pos, af, g⟩ e = true) (hn : Nat.blt d n = true) (ha : A.toList.map (ev e) = args)
  (k : At cx (WL P n ops Q rest) (upd e d v) L) : At cx (WL P n ops Q (⟨some d, .call ⟨.value (.func f), A, tys⟩, ty, pos, af, g⟩ :: rest)) e L :=
 l_calls hw rfl hn (Jez hc ha) fun w hF hS => (h w).mono fun v' w' ⟨hv, hg⟩ => by
  subst hv
  exact k.out w' (hF.grow hg) (hS.grow hg)
theorem results_one {fn : Func} {t : Tmp} (h : fn.results = #[.tmp t]) (tmps : Array Value) (w : World) : (results fn tmps).run P w = .ok (tmps.getD t undef) w := by
 simp [results, h]
theorem results_two {fn : Func} {t u : Tmp} (h : fn.results = #[.tmp t, .tmp u]) (tmps : Array Value) (w : World) : (results fn tmps).run P w = .ok (.tuple #[tmps.getD t undef, tmps.getD u undef]) w := by
 simp [results, h]
theorem Jkv {fn : Func} {t u s : Tmp} (h : fn.results = #[.tmp t, .tmp u, .tmp s]) (tmps : Array Value) (w : World) : (results fn tmps).run P w = .ok (.tuple #[tmps.getD t undef, tmps.getD u undef, tmps.getD s undef]) w := by
 simp [results, h]
theorem Uh {fn : Func} {R : Value → World → Prop} {t : Tmp} {v : Value} (hr : fn.results = #[.tmp t]) (ht : e t = v) (k : ∀ w, Fr cx w → Sat cx w L → R v w) : At cx (Jfy P fn R .ret) e L :=
 ⟨fun w hF hS tmps hs => ⟨v, by rw [results_one hr, hs, ht], k w hF hS⟩⟩
theorem Jba {fn : Func} {R : Value → World → Prop} {t u : Tmp} {v1 v2 : Value} (hr : fn.results = #[.tmp t, .tmp u]) (h1 : e t = v1) (h2 : e u = v2) (k : ∀ w, Fr cx w → Sat cx w L → R (.tuple #[v1, v2]) w) : At cx (Jfy P fn R .ret) e L :=
 ⟨fun w hF hS tmps hs => ⟨.tuple #[v1, v2], by rw [results_two hr, hs, hs, h1, h2], k w hF hS⟩⟩
theorem ret3 {fn : Func} {R : Value → World → Prop} {t u s : Tmp} {v1 v2 v3 : Value} (hr : fn.results = #[.tmp t, .tmp u, .tmp s]) (h1 : e t = v1) (h2 : e u = v2) (h3 : e s = v3) (k : ∀ w, Fr cx w → Sat cx w L → R (.tuple #[v1, v2, v3]) w) : At cx (Jfy P fn R .ret) e L :=
 ⟨fun w hF hS tmps hs => ⟨.tuple #[v1, v2, v3], by rw [Jkv hr, hs, hs, hs, h1, h2, h3], k w hF hS⟩⟩
theorem Jky {fn : Func} {t T b : Nat} {v : Value} (h : fn.results = #[.cell t T]) (tmps : Array Value) (w : World) (ht : tmps.getD t undef = .pointer (some ⟨b, 0, none⟩)) (hl : (loadVar T ⟨b, 0, none⟩).run P w = .ok v w) :
  (results fn tmps).run P w = .ok v w := by
 rw [Array.getD_eq_getD_getElem?] at ht
 simp [results, h, ht, asAddr, hl]
theorem Jkb {fn : Func} {t T b u : Nat} {v : Value} (h : fn.results = #[.cell t T, .tmp u]) (tmps : Array Value) (w : World) (ht : tmps.getD t undef = .pointer (some ⟨b, 0, none⟩)) (hl : (loadVar T ⟨b, 0, none⟩).run P w = .ok v w) :
  (results fn tmps).run P w = .ok (.tuple #[v, tmps.getD u undef]) w := by
 rw [Array.getD_eq_getD_getElem?] at ht
 simp [results, h, ht, asAddr, hl]
theorem retC {i : Nat} {fn : Func} {R : Value → World → Prop} {t T T0 b sz : Nat} {cs vs : List Value} (hA : ∀ w, (isAgg T).run P w = .ok true w) (hs : ∀ w, (sizeOf T).run P w = .ok sz w) (hr : fn.results = #[.cell t T])
  (ht : e t = .pointer (some ⟨b, 0, none⟩)) (hL : L[i]? = some (Ji b cs T0)) (hv : rd cs 0 sz = some vs) (k : ∀ w, Fr cx w → Sat cx w L → R (.agg vs.toArray) w) : At cx (Jfy P fn R .ret) e L :=
 ⟨fun w hF hS tmps hts => ⟨.agg vs.toArray, by
  obtain ⟨h1, h2⟩ := Jh9 hv
  have hl := Wb (P := P) (w := w) (b := b) (o := 0) hA hs h1 (fun j v hj => by rw [Jdq (Xf hS hL)]; exact h2 j v hj)
  exact Jky hr tmps w (by rw [hts, ht]) hl, k w hF hS⟩⟩
theorem Jco {i : Nat} {fn : Func} {R : Value → World → Prop} {t T T0 b sz u : Nat} {cs vs : List Value} {v2 : Value} (hA : ∀ w, (isAgg T).run P w = .ok true w) (hs : ∀ w, (sizeOf T).run P w = .ok sz w) (hr : fn.results = #[.cell t T, .tmp u])
  (ht : e t = .pointer (some ⟨b, 0, none⟩)) (hL : L[i]? = some (Ji b cs T0)) (hv : rd cs 0 sz = some vs) (h2 : e u = v2) (k : ∀ w, Fr cx w → Sat cx w L → R (.tuple #[.agg vs.toArray, v2]) w) : At cx (Jfy P fn R .ret) e L :=
 ⟨fun w hF hS tmps hts => ⟨.tuple #[.agg vs.toArray, v2], by
  obtain ⟨h1, h2'⟩ := Jh9 hv
  have hl := Wb (P := P) (w := w) (b := b) (o := 0) hA hs h1 (fun j v hj => by rw [Jdq (Xf hS hL)]; exact h2' j v hj)
  rw [Jkb hr tmps w (by rw [hts, ht]) hl, hts, h2], k w hF hS⟩⟩
theorem fin {w0 : World} {L : List Chunk} {v v' : Value} (h : v' = v) : ∀ w, Fr ⟨w0, fun _ => False⟩ w → Sat ⟨w0, fun _ => False⟩ w L → (v' = v ∧ Grow w0 w) :=
 fun w hF _ => ⟨h, hF.os, hF.tape, hF.output, hF.size, fun k hk => hF.block k (by simp [Cx.own]; exact hk)⟩
theorem Qi {f : FuncId} {fn : Func} {c : Code} {args : List Value} {v : Value} (hf : P.funcs[f]? = some fn) (hb : fn.body = some c) (hn : fn.ntmps = n) (hle : Nat.ble args.length n = true)
  (h : ∀ w, At ⟨w, fun _ => False⟩ (WC P n c (Jfy P fn fun v' w' => v' = v ∧ Grow w w')) (lget args) []) : Ret P f args v :=
 fun w => enter hf hb hn hle (fun _ => False) [] (Sat.nil _ _) (h w)
def mkE : List (Nat × Value) → Xc → Xc
 | [], g => g
 | (a, v) :: r, g => fun t => bif Nat.beq t a then v else mkE r g t
def Jhs (e : Xc) : List (Nat × Value) → Prop
 | [] => True
 | (a, v) :: r => e a = v ∧ Jhs e r
theorem Jj7 (e : Xc) : ∀ l, Jhs e l → mkE l e = e
 | [], _ => rfl
 | (a, v) :: r, ⟨h, hr⟩ => by
  funext t
  simp only [mkE, beq_eq, Jj7 e r hr]
  by_cases ht : t = a
  ·simp [ht, h]
  ·simp [ht]
structure RoundEnd {σ : Type} (cx : Cx) (st : σ → List (Nat × Value)) (hp : σ → List Chunk) (I : σ → Prop) (m : Nat) (μ : σ → Nat) (e : Xc) (w : World) : Prop where
 out : ∃ s, Jhs e (st s) ∧ Fr cx w ∧ Sat cx w (hp s) ∧ I s ∧ μ s < m
end rules
end Go.Vc

namespace Go.Vc
open Go
inductive Kd where
 | p
 | g (rs rds wrs : List Nat) (V : List Value → List (Option Chunk) → Value → Prop) (T : List Value → List (Option Chunk) → Value → List Chunk)
def Kd.d (rds : List Nat) (v0 : Value) : Kd := .g [] rds [] (fun _ _ v => v = v0) (fun _ _ _ => [])
abbrev Look := Nat → Option Chunk
def look (L : List Chunk) : Look := fun i => L[i]?
def Kd.rs : Kd → List Nat | .p => [] | .g rs _ _ _ _ => rs
def Kd.rds : Kd → List Nat | .p => [] | .g _ rds _ _ _ => rds
def Kd.wrs : Kd → List Nat | .p => [] | .g _ _ wrs _ _ => wrs
def Kd.V (P : Program) (o : Oper) (s : Kd) (e : Xc) (l : Look) (v : Value) : Prop :=
 match s with
 | .p => ∀ w, (execOp (ev e) o).run P w = .ok (.value v) w
 | .g rs rds _ V _ => V (rs.map e) (rds.map l) v
def Kd.T (s : Kd) (e : Xc) (l : Look) (v : Value) : List (Nat × Chunk) :=
 match s with
 | .p => []
 | .g rs rds wrs _ T => wrs.zip (T (rs.map e) (rds.map l) v)
def Vx (L : List Chunk) : List (Nat × Chunk) → List Chunk
 | [] => L
 | (i, c) :: r => Vx (L.set i c) r
def Jdh (e : Xc) (d : Option Nat) (v : Value) : Xc := match d with | some d => upd e d v | none => e
def RunsTo (P : Program) (ρ : Operand → Value) (o : Oper) (w : World) (R : Value → World → Prop) : Prop :=
 match (execOp ρ o).run P w with
 | .ok (.value v) w' => R v w'
 | .ok .skip w' => R undef w'
 | .ok (.enter f args) w' => Does P f args w' R
 | _ => False
theorem RunsTo.mono {P : Program} {ρ : Operand → Value} {o : Oper} {w : World} {R R' : Value → World → Prop} (h : RunsTo P ρ o w R) (hr : ∀ v w', R v w' → R' v w') : RunsTo P ρ o w R' := by
 unfold RunsTo at *
 generalize (execOp ρ o).run P w = r at *
 cases r with
 | halt x w' => exact h
 | ok nx w' =>
  cases nx <;> first | exact hr _ _ h | exact Does.mono h hr | exact h
structure LV (P : Program) (cx : Cx) (o : Oper) (s : Kd) (e : Xc) (L : List Chunk) : Prop where
 out : ∀ (w : World) (L' : List Chunk), Fr cx w → Sat cx w L' → L'.length = L.length → (∀ i, i ∈ s.rds ∨ i ∈ s.wrs → L'[i]? = L[i]?) →
  RunsTo P (ev e) o w (fun v w' => s.V P o e (look L) v ∧ Fr cx w' ∧ Sat cx w' (Vx L' (s.T e (look L) v)))
inductive Sq (P : Program) (cx : Cx) (ops : Array Oper) (F : Xc → List Chunk → Prop) : List Oper → List Kd → Xc → List Chunk → Prop
 | nil {e : Xc} {L : List Chunk} (h : F e L) : Sq P cx ops F [] [] e L
 | pass {o : Oper} {os : List Oper} {s : Kd} {ss : List Kd} {e : Xc} {L : List Chunk} (hw : Xt ops o e = false) (h : Sq P cx ops F os ss (Jdh e o.dst undef) L) : Sq P cx ops F (o :: os) (s :: ss) e L
 | take {o : Oper} {os : List Oper} {s : Kd} {ss : List Kd} {e : Xc} {L : List Chunk} (hw : Xt ops o e = true) (hi : ∃ v, s.V P o e (look L) v) (hl : LV P cx o s e L)
   (h : ∀ v, s.V P o e (look L) v → Sq P cx ops F os ss (Jdh e o.dst v) (Vx L (s.T e (look L) v))) : Sq P cx ops F (o :: os) (s :: ss) e L
def binding (o : Oper) (i : Nat) : Bool := o.after.toList.any fun x => Region.binds .any x && Nat.beq x.on i
def Jgr (l : List Oper) : Nat → Nat → Nat → Bool
 | 0, _, _ => false
 | f + 1, k, i =>
  match l[k]? with
  | none => false
  | some o => binding o i || o.after.toList.any fun x => Region.binds .any x && Jgr l f x.on i
def Jhn (a b : List Nat) : Bool := a.any fun x => b.any fun y => Nat.beq x y
def Jdk (ops : Array Oper) (o1 o2 : Oper) (s1 s2 : Kd) : Bool :=
 Jhn o1.dst.toList (o2.looksAt ops) || Jhn o1.dst.toList o2.dst.toList || Jhn o2.dst.toList (o1.looksAt ops) ||
 Jhn s1.wrs s2.rds || Jhn s1.wrs s2.wrs || Jhn s1.rds s2.wrs
def subs (a b : List Nat) : Bool := a.all fun x => b.any fun y => Nat.beq x y
def checkD (n : Nat) (l : List Oper) (sp : List Kd) : Bool :=
 Nat.beq l.length sp.length && Region.noSelect l.toArray &&
 (List.range l.length).all fun k =>
  match l[k]?, sp[k]? with
  | some o, some s =>
   (o.after.toList.all fun x => !Region.binds .any x || Nat.blt x.on k) && (o.dst.all fun d => Nat.blt d n) && subs s.rs (o.looksAt l.toArray) &&
   (List.range k).all fun i =>
    match l[i]?, sp[i]? with
    | some o1, some s1 => !Jdk l.toArray o1 o s1 s || Jgr l 3 k i
    | _, _ => false
  | _, _ => false
theorem Jea {a b : List Nat} {x : Nat} (ha : x ∈ a) (hb : x ∈ b) : Jhn a b = true := by
 unfold Jhn
 rw [List.any_eq_true]
 exact ⟨x, ha, List.any_eq_true.2 ⟨x, hb, by simp⟩⟩
section sound
variable {P : Program} {n : Nat} {cx : Cx} {Q : Jae} {l : List Oper} {sp : List Kd} {e0 : Xc} {L0 : List Chunk}
def od (l : List Oper) (k : Nat) : Oper := l.getD k default
def sd (sp : List Kd) (k : Nat) : Kd := sp.getD k .p
def EL (P : Program) (l : List Oper) (sp : List Kd) (e0 : Xc) (L0 : List Chunk) (S : Nat → Bool) (val : Nat → Value) : Nat → Xc × List Chunk
 | 0 => (e0, L0)
 | k + 1 =>
  let x := EL P l sp e0 L0 S val k
  if S k then (Jdh x.1 (od l k).dst (val k), if Xt l.toArray (od l k) x.1 = true then Vx x.2 ((sd sp k).T x.1 (look x.2) (val k)) else x.2) else x
structure Ok (n : Nat) (l : List Oper) (sp : List Kd) : Prop where
 len : l.length = sp.length
 nosel : Region.noSelect l.toArray = true
 back : ∀ k x, k < l.length → x ∈ (od l k).after.toList → Region.binds .any x = true → x.on < k
 dst : ∀ k d, k < l.length → (od l k).dst = some d → Nat.blt d n = true
 rs : ∀ k t, k < l.length → t ∈ (sd sp k).rs → t ∈ (od l k).looksAt l.toArray
 ord : ∀ k i, k < l.length → i < k → Jdk l.toArray (od l i) (od l k) (sd sp i) (sd sp k) = true → Jgr l 3 k i = true
theorem ok_of (h : checkD n l sp = true) : Ok n l sp := by
 unfold checkD at h
 simp only [Bool.and_eq_true, List.all_eq_true, List.mem_range] at h
 obtain ⟨⟨h1, h2⟩, h3⟩ := h
 have hlen : l.length = sp.length := by simpa using h1
 have key : ∀ k, k < l.length → l[k]? = some (od l k) ∧ sp[k]? = some (sd sp k) := by
  intro k hk
  have hk' : k < sp.length := by omega
  exact ⟨by simp [od, List.getD_eq_getElem?_getD, List.getElem?_eq_getElem hk], by simp [sd, List.getD_eq_getElem?_getD, List.getElem?_eq_getElem hk']⟩
 have h4 : ∀ k, k < l.length → _ := fun k hk => by
  have := h3 k hk
  rw [(key k hk).1, (key k hk).2] at this
  simp only [Bool.and_eq_true, List.all_eq_true, List.mem_range] at this
  exact this
 refine ⟨hlen, h2, ?_, ?_, ?_, ?_⟩
 ·intro k x hk hx hb
  have := (h4 k hk).1.1.1
  have := this x hx
  simpa [hb] using this
 ·intro k d hk hd
  have := (h4 k hk).1.1.2
  rw [hd] at this
  simpa using this
 ·intro k t hk ht
  have := (h4 k hk).1.2
  unfold subs at this
  rw [List.all_eq_true] at this
  obtain ⟨y, hy, hyt⟩ := List.any_eq_true.1 (this t ht)
  have : t = y := by simpa using hyt
  rw [this]; exact hy
 ·intro k i hk hi hc
  have := (h4 k hk).2 i hi
  rw [(key i (by omega)).1, (key i (by omega)).2] at this
  simpa [hc] using this
def Jiu (l : List Oper) (S : Nat → Prop) (k : Nat) : Prop := ∀ x ∈ (od l k).after.toList, Region.binds .any x = true → S x.on
theorem reach_in (S : Nat → Prop) (hS : ∀ k, k < l.length → S k → Jiu l S k) (hb : ∀ k x, k < l.length → x ∈ (od l k).after.toList → Region.binds .any x = true → x.on < k) :
  ∀ f k i, k < l.length → Jiu l S k → Jgr l f k i = true → S i := by
 intro f
 induction f with
 | zero => intro k i _ _ h; simp [Jgr] at h
 | succ f ih =>
  intro k i hk hc h
  have hlk : l[k]? = some (od l k) := by simp [od, List.getD_eq_getElem?_getD, List.getElem?_eq_getElem hk]
  simp only [Jgr, hlk, Bool.or_eq_true] at h
  rcases h with h | h
  ·unfold binding at h
   rw [List.any_eq_true] at h
   obtain ⟨x, hx, hxb⟩ := h
   simp only [Bool.and_eq_true] at hxb
   have : x.on = i := by simpa using hxb.2
   rw [← this]
   exact hc x hx hxb.1
  ·rw [List.any_eq_true] at h
   obtain ⟨x, hx, hxb⟩ := h
   simp only [Bool.and_eq_true] at hxb
   have hlt := hb k x hk hx hxb.1
   exact ih x.on i (by omega) (hS x.on (by omega) (hc x hx hxb.1)) hxb.2
theorem Jeo (T : List (Nat × Chunk)) : ∀ L : List Chunk, (Vx L T).length = L.length := by
 induction T with
 | nil => intro L; rfl
 | cons p T ih => intro L; obtain ⟨i, c⟩ := p; simp [Vx, ih]
theorem Wm (T : List (Nat × Chunk)) : ∀ (L : List Chunk) (i : Nat), (∀ p ∈ T, p.1 ≠ i) → (Vx L T)[i]? = L[i]? := by
 induction T with
 | nil => intro L i _; rfl
 | cons p T ih =>
  intro L i h
  obtain ⟨j, c⟩ := p
  simp only [Vx]
  rw [ih _ i (fun p hp => h p (List.mem_cons_of_mem _ hp)), List.getElem?_set_ne]
  exact h (j, c) (List.mem_cons_self ..)
theorem Jf8 (T : List (Nat × Chunk)) : ∀ (L L' : List Chunk) (i : Nat), L.length = L'.length → L[i]? = L'[i]? → (Vx L T)[i]? = (Vx L' T)[i]? := by
 induction T with
 | nil => intro L L' i _ h; exact h
 | cons p T ih =>
  intro L L' i hl h
  obtain ⟨j, c⟩ := p
  simp only [Vx]
  refine ih _ _ i (by simp [hl]) ?_
  by_cases hji : j = i
  ·subst hji
   rw [List.getElem?_set, List.getElem?_set, if_pos rfl, if_pos rfl, hl]
  ·rw [List.getElem?_set_ne hji, List.getElem?_set_ne hji, h]
theorem T_in (s : Kd) (e : Xc) (lk : Look) (v : Value) : ∀ p ∈ s.T e lk v, p.1 ∈ s.wrs := by
 intro p hp
 cases s with
 | p => simp [Kd.T] at hp
 | g rs rds wrs V T =>
  simp only [Kd.T] at hp
  exact (List.of_mem_zip (a := p.1) (b := p.2) hp).1
theorem T_loc (s : Kd) {e e' : Xc} {lk lk' : Look} (h1 : ∀ t ∈ s.rs, e t = e' t) (h2 : ∀ i ∈ s.rds, lk i = lk' i) (v : Value) : s.T e lk v = s.T e' lk' v := by
 cases s with
 | p => rfl
 | g rs rds wrs V T =>
  have h1' : rs.map e = rs.map e' := List.map_congr_left h1
  have h2' : rds.map lk = rds.map lk' := List.map_congr_left h2
  simp only [Kd.T, h1', h2']
theorem ev_loc {e e' : Xc} {o : Oper} (hs : ∀ cs b, o.op ≠ .select cs b) {ops : Array Oper} (h : ∀ t ∈ o.looksAt ops, e t = e' t) : execOp (ev e) o = execOp (ev e') o := by
 refine execOp_congr o hs fun x hx => ?_
 cases x with
 | tmp t => exact h t (List.mem_append_left _ (List.mem_filterMap.2 ⟨.tmp t, by simpa using hx, rfl⟩))
 | const v => rfl
 | global g => rfl
 | func f => rfl
theorem V_loc {o : Oper} (s : Kd) (hs : ∀ cs b, o.op ≠ .select cs b) {ops : Array Oper} {e e' : Xc} {lk lk' : Look} (h : ∀ t ∈ o.looksAt ops, e t = e' t) (h1 : ∀ t ∈ s.rs, e t = e' t) (h2 : ∀ i ∈ s.rds, lk i = lk' i) (v : Value) :
  s.V P o e lk v = s.V P o e' lk' v := by
 cases s with
 | p => simp only [Kd.V]; rw [ev_loc hs h]
 | g rs rds wrs V T =>
  have h1' : rs.map e = rs.map e' := List.map_congr_left h1
  have h2' : rds.map lk = rds.map lk' := List.map_congr_left h2
  simp only [Kd.V, h1', h2']
theorem V_locL {o : Oper} (s : Kd) (hs : ∀ cs b, o.op ≠ .select cs b) {ops : Array Oper} {e e' : Xc} {L L' : List Chunk} (h : ∀ t ∈ o.looksAt ops, e t = e' t) (h1 : ∀ t ∈ s.rs, e t = e' t) (h2 : ∀ i ∈ s.rds, L[i]? = L'[i]?) (v : Value) :
  s.V P o e (look L) v = s.V P o e' (look L') v := V_loc s hs h h1 h2 v
theorem Jd1 {o : Oper} {ops : Array Oper} {e e' : Xc} (h : ∀ t ∈ o.looksAt ops, e t = e' t) : Xt ops o e = Xt ops o e' := by
 unfold Xt
 cases hg : o.guard with
 | none => rfl
 | some jb =>
  obtain ⟨j, b⟩ := jb
  simp only
  cases hd : (ops[j]?).bind (·.dst) with
  | none => rfl
  | some d =>
   have : e d = e' d := h d (by unfold Oper.looksAt; rw [hg]; exact List.mem_append_right _ (by simp [hd]))
   simp only [this]
theorem Jia {e e' : Xc} {t : Nat} (d : Option Nat) (v : Value) (h : d ≠ some t → e t = e' t) : Jdh e d v t = Jdh e' d v t := by
 cases d with
 | none => exact h (by simp)
 | some d =>
  by_cases ht : t = d
  ·subst ht; simp [Jdh, upd_same]
  ·simp only [Jdh]; rw [upd_ne _ _ _ _ ht, upd_ne _ _ _ _ ht]; exact h (by simpa using fun h => ht h.symm)
theorem Jbt {e : Xc} {t : Nat} {d : Option Nat} (v : Value) (h : d ≠ some t) : Jdh e d v t = e t := by
 cases d with
 | none => rfl
 | some d => simp only [Jdh]; exact upd_ne _ _ _ _ (by simpa using fun h' => h (by rw [h']))
theorem Jgm (S : Nat → Bool) (val : Nat → Value) : ∀ k, (EL P l sp e0 L0 S val k).2.length = L0.length := by
 intro k
 induction k with
 | zero => rfl
 | succ k ih =>
  simp only [EL]
  split
  ·split
   ·simp [Jeo, ih]
   ·exact ih
  ·exact ih
theorem Jkh {ops : Array Oper} {o1 o2 : Oper} {s1 s2 : Kd} {t : Nat} (h1 : o1.dst = some t) (h2 : t ∈ o2.looksAt ops) : Jdk ops o1 o2 s1 s2 = true := by
 unfold Jdk; rw [Jea (a := o1.dst.toList) (x := t) (by simp [h1]) h2]; rfl
theorem clash_dd {ops : Array Oper} {o1 o2 : Oper} {s1 s2 : Kd} {t : Nat} (h1 : o1.dst = some t) (h2 : o2.dst = some t) : Jdk ops o1 o2 s1 s2 = true := by
 unfold Jdk; rw [Jea (a := o1.dst.toList) (b := o2.dst.toList) (x := t) (by simp [h1]) (by simp [h2])]; simp
theorem clash_ld {ops : Array Oper} {o1 o2 : Oper} {s1 s2 : Kd} {t : Nat} (h1 : t ∈ o1.looksAt ops) (h2 : o2.dst = some t) : Jdk ops o1 o2 s1 s2 = true := by
 unfold Jdk; rw [Jea (a := o2.dst.toList) (x := t) (by simp [h2]) h1]; simp
theorem Jhk {ops : Array Oper} {o1 o2 : Oper} {s1 s2 : Kd} {i : Nat} (h1 : i ∈ s1.wrs) (h2 : i ∈ s2.rds ∨ i ∈ s2.wrs) : Jdk ops o1 o2 s1 s2 = true := by
 unfold Jdk
 rcases h2 with h2 | h2
 ·rw [Jea h1 h2]; simp
 ·rw [Jea (a := s1.wrs) (b := s2.wrs) h1 h2]; simp
theorem clash_rw {ops : Array Oper} {o1 o2 : Oper} {s1 s2 : Kd} {i : Nat} (h1 : i ∈ s1.rds ∨ i ∈ s1.wrs) (h2 : i ∈ s2.wrs) : Jdk ops o1 o2 s1 s2 = true := by
 unfold Jdk
 rcases h1 with h1 | h1
 ·rw [Jea (a := s1.rds) (b := s2.wrs) h1 h2]; simp
 ·rw [Jea (a := s1.wrs) (b := s2.wrs) h1 h2]; simp
theorem EL_agree (ok : Ok n l sp) {S S' : Nat → Bool} {val val' : Nat → Value} :
  ∀ k, k < l.length → (∀ i, i < k → Jgr l 3 k i = true → S i ∧ S' i ∧ val i = val' i) →
   (∀ i, i < k → S i → S' i → val i = val' i ∧
    ((∀ t ∈ (od l i).looksAt l.toArray, (EL P l sp e0 L0 S val i).1 t = (EL P l sp e0 L0 S' val' i).1 t) ∧
     (∀ r, r ∈ (sd sp i).rds ∨ r ∈ (sd sp i).wrs → (EL P l sp e0 L0 S val i).2[r]? = (EL P l sp e0 L0 S' val' i).2[r]?))) →
   ∀ j, j ≤ k → (∀ t ∈ (od l k).looksAt l.toArray, (EL P l sp e0 L0 S val j).1 t = (EL P l sp e0 L0 S' val' j).1 t) ∧
    (∀ r, r ∈ (sd sp k).rds ∨ r ∈ (sd sp k).wrs → (EL P l sp e0 L0 S val j).2[r]? = (EL P l sp e0 L0 S' val' j).2[r]?) := by
 intro k hk hcl hin j
 induction j with
 | zero => intro _; exact ⟨fun _ _ => rfl, fun _ _ => rfl⟩
 | succ j ih =>
  intro hj
  obtain ⟨ih1, ih2⟩ := ih (by omega)
  by_cases hb : S j ∧ S' j
  ·obtain ⟨hv, hl1, hl2⟩ := hin j (by omega) hb.1 hb.2
   have hw : Xt l.toArray (od l j) (EL P l sp e0 L0 S val j).1 = Xt l.toArray (od l j) (EL P l sp e0 L0 S' val' j).1 := Jd1 hl1
   have hT : (sd sp j).T (EL P l sp e0 L0 S val j).1 (look (EL P l sp e0 L0 S val j).2) (val j) = (sd sp j).T (EL P l sp e0 L0 S' val' j).1 (look (EL P l sp e0 L0 S' val' j).2) (val' j) := by
    rw [hv]
    exact T_loc _ (fun t ht => hl1 t (ok.rs j t (by omega) ht)) (fun i hi => hl2 i (.inl hi)) _
   simp only [EL, if_pos hb.1, if_pos hb.2]
   refine ⟨fun t ht => ?_, fun r hr => ?_⟩
   ·rw [hv]; exact Jia _ _ (fun _ => ih1 t ht)
   ·rw [hw, hT]
    split
    ·exact Jf8 _ _ _ r (by rw [Jgm, Jgm]) (ih2 r hr)
    ·exact ih2 r hr
  ·have hnr : ¬ Jgr l 3 k j = true := fun hr => hb ⟨(hcl j (by omega) hr).1, (hcl j (by omega) hr).2.1⟩
   have hnc : ¬ Jdk l.toArray (od l j) (od l k) (sd sp j) (sd sp k) = true := fun hc => hnr (ok.ord k j hk (by omega) hc)
   have one : ∀ (X : Nat → Bool) (va : Nat → Value), (∀ t ∈ (od l k).looksAt l.toArray, (EL P l sp e0 L0 X va (j + 1)).1 t = (EL P l sp e0 L0 X va j).1 t) ∧
     (∀ r, r ∈ (sd sp k).rds ∨ r ∈ (sd sp k).wrs → (EL P l sp e0 L0 X va (j + 1)).2[r]? = (EL P l sp e0 L0 X va j).2[r]?) := by
    intro X va
    simp only [EL]
    split
    ·refine ⟨fun t ht => ?_, fun r hr => ?_⟩
     ·exact Jbt _ (fun hd => hnc (Jkh hd ht))
     ·split
      ·exact Wm _ _ r (fun p hp hpr => hnc (Jhk (by rw [← hpr]; exact T_in _ _ _ _ p hp) hr))
      ·rfl
    ·exact ⟨fun _ _ => rfl, fun _ _ => rfl⟩
   refine ⟨fun t ht => ?_, fun r hr => ?_⟩
   ·rw [(one S val).1 t ht, (one S' val').1 t ht]; exact ih1 t ht
   ·rw [(one S val).2 r hr, (one S' val').2 r hr]; exact ih2 r hr
def Sc (l : List Oper) (S : Nat → Bool) : Prop := ∀ k, k < l.length → S k = true → Jiu l (fun i => S i = true) k
theorem Ja4 (ok : Ok n l sp) {S : Nat → Bool} (hS : Sc l S) {k i : Nat} (hk : k < l.length) (hc : Jiu l (fun i => S i = true) k) (h : Jgr l 3 k i = true) : S i = true :=
 reach_in (fun i => S i = true) (fun k hk h => hS k hk h) ok.back 3 k i hk hc h
theorem agree_all (ok : Ok n l sp) {S S' : Nat → Bool} {val val' : Nat → Value} (hS : Sc l S) (hS' : ∀ i, S i = true → S' i = true) (hv : ∀ i, S i = true → val i = val' i) :
  ∀ k, k < l.length → Jiu l (fun i => S i = true) k → (∀ t ∈ (od l k).looksAt l.toArray, (EL P l sp e0 L0 S val k).1 t = (EL P l sp e0 L0 S' val' k).1 t) ∧
    (∀ r, r ∈ (sd sp k).rds ∨ r ∈ (sd sp k).wrs → (EL P l sp e0 L0 S val k).2[r]? = (EL P l sp e0 L0 S' val' k).2[r]?) := by
 intro k
 induction k using Nat.strongRecOn with
 | _ k ih =>
  intro hk hc
  exact EL_agree ok k hk (fun i hi hr => ⟨Ja4 ok hS hk hc hr, hS' i (Ja4 ok hS hk hc hr), hv i (Ja4 ok hS hk hc hr)⟩)
   (fun i hi hs _ => ⟨hv i hs, ih i hi (by omega) (hS i (by omega) hs)⟩) k (Nat.le_refl _)
theorem EL_congr (S : Nat → Bool) {val val' : Nat → Value} : ∀ k, (∀ i, i < k → val i = val' i) → EL P l sp e0 L0 S val k = EL P l sp e0 L0 S val' k := by
 intro k
 induction k with
 | zero => intro _; rfl
 | succ k ih =>
  intro h
  simp only [EL]
  rw [ih (fun i hi => h i (by omega)), h k (by omega)]
def Cons (P : Program) (l : List Oper) (sp : List Kd) (e0 : Xc) (L0 : List Chunk) (S : Nat → Bool) (val : Nat → Value) (k : Nat) : Prop :=
 ∀ j, j < k → S j = true → if Xt l.toArray (od l j) (EL P l sp e0 L0 S val j).1 = true then (sd sp j).V P (od l j) (EL P l sp e0 L0 S val j).1 (look (EL P l sp e0 L0 S val j).2) (val j) else val j = undef
def full : Nat → Bool := fun _ => true
theorem drop_od {k : Nat} (hk : k < l.length) : l.drop k = od l k :: l.drop (k + 1) := by
 rw [List.drop_eq_getElem_cons hk]; simp [od, List.getD_eq_getElem?_getD, List.getElem?_eq_getElem hk]
theorem drop_sd {k : Nat} (hk : k < sp.length) : sp.drop k = sd sp k :: sp.drop (k + 1) := by
 rw [List.drop_eq_getElem_cons hk]; simp [sd, List.getD_eq_getElem?_getD, List.getElem?_eq_getElem hk]
theorem sq_at (ok : Ok n l sp) {F : Xc → List Chunk → Prop} (h : Sq P cx l.toArray F l sp e0 L0) : ∀ k, k ≤ l.length → ∀ val, Cons P l sp e0 L0 full val k →
  Sq P cx l.toArray F (l.drop k) (sp.drop k) (EL P l sp e0 L0 full val k).1 (EL P l sp e0 L0 full val k).2 := by
 intro k
 induction k with
 | zero => intro _ _ _; simpa [EL] using h
 | succ k ih =>
  intro hk val hc
  have h0 := ih (by omega) val (fun j hj => hc j (by omega))
  rw [drop_od (by omega), drop_sd (by have := ok.len; omega)] at h0
  have hck := hc k (by omega) rfl
  simp only [EL, full, if_true]
  cases h0 with
  | pass hw h1 =>
   rw [if_neg (by rw [hw]; simp)] at hck
   rw [if_neg (by rw [hw]; simp), hck]
   exact h1
  | take hw hi hl h1 =>
   rw [if_pos hw] at hck
   rw [if_pos hw]
   exact h1 _ hck
theorem fill (ok : Ok n l sp) {F : Xc → List Chunk → Prop} (h : Sq P cx l.toArray F l sp e0 L0) {S : Nat → Bool} {val : Nat → Value} (hS : Sc l S) (hc : Cons P l sp e0 L0 S val l.length) :
  ∀ k, k ≤ l.length → ∃ val', (∀ i, S i = true → val' i = val i) ∧ Cons P l sp e0 L0 full val' k := by
 intro k
 induction k with
 | zero => intro _; exact ⟨val, fun _ _ => rfl, fun j hj => by omega⟩
 | succ k ih =>
  intro hk
  obtain ⟨val', hv, hcf⟩ := ih (by omega)
  by_cases hSk : S k = true
  ·refine ⟨val', hv, fun j hj hf => ?_⟩
   by_cases hjk : j = k
   ·subst hjk
    have hj' := hc j (by omega) hSk
    obtain ⟨a1, a2⟩ := agree_all (P := P) (e0 := e0) (L0 := L0) ok (S' := full) (val' := val') hS (fun _ _ => rfl) (fun i hi => (hv i hi).symm) j (by omega) (hS j (by omega) hSk)
    rw [← Jd1 (ops := l.toArray) a1, hv j hSk]
    split
    ·rename_i hw
     rw [if_pos hw] at hj'
     rw [← V_loc (lk := look (EL P l sp e0 L0 S val j).2) (lk' := look (EL P l sp e0 L0 full val' j).2) (sd sp j) (Region.noSelect_spec ok.nosel j _ · · (by simp [od, List.getD_eq_getElem?_getD, List.getElem?_eq_getElem (show j < l.length by omega)])) (ops := l.toArray) a1 (fun t ht => a1 t (ok.rs j t (by omega) ht)) (fun i hi => a2 i (.inl hi))]
     exact hj'
    ·rename_i hw
     rw [if_neg hw] at hj'
     exact hj'
   ·exact hcf j (by omega) hf
  ·have h0 := sq_at ok h k (by omega) val' hcf
   rw [drop_od (by omega), drop_sd (by have := ok.len; omega)] at h0
   have fin : ∀ v : Value, (if Xt l.toArray (od l k) (EL P l sp e0 L0 full val' k).1 = true then (sd sp k).V P (od l k) (EL P l sp e0 L0 full val' k).1 (look (EL P l sp e0 L0 full val' k).2) v else v = undef) →
     ∃ val'', (∀ i, S i = true → val'' i = val i) ∧ Cons P l sp e0 L0 full val'' (k + 1) := by
    intro v hvv
    refine ⟨fun i => if i = k then v else val' i, fun i hi => ?_, fun j hj hf => ?_⟩
    ·have : i ≠ k := fun e => hSk (by rw [← e]; exact hi)
     simp [this, hv i hi]
    ·have he : EL P l sp e0 L0 full (fun i => if i = k then v else val' i) j = EL P l sp e0 L0 full val' j := EL_congr full j (fun i hi => by
      have : i ≠ k := by omega
      simp [this])
     rw [he]
     by_cases hjk : j = k
     ·subst hjk
      simpa using hvv
     ·simp only [hjk, if_false]
      exact hcf j (by omega) hf
   cases h0 with
   | pass hw h1 => exact fin undef (by rw [if_neg (by rw [hw]; simp)])
   | take hw hi hl h1 =>
    obtain ⟨v, hv'⟩ := hi
    exact fin v (by rw [if_pos hw]; exact hv')
theorem tail_agree (ok : Ok n l sp) {S : Nat → Bool} {val : Nat → Value} (hS : Sc l S) {k : Nat} (hSk : S k = false) :
  ∀ j, k ≤ j → j ≤ l.length → (∀ t ∈ (od l k).looksAt l.toArray, (EL P l sp e0 L0 S val j).1 t = (EL P l sp e0 L0 S val k).1 t) ∧
    (∀ r, r ∈ (sd sp k).rds ∨ r ∈ (sd sp k).wrs → (EL P l sp e0 L0 S val j).2[r]? = (EL P l sp e0 L0 S val k).2[r]?) := by
 intro j hj
 obtain ⟨d, rfl⟩ := Nat.exists_eq_add_of_le hj
 clear hj
 induction d with
 | zero => intro _; exact ⟨fun _ _ => rfl, fun _ _ => rfl⟩
 | succ d ih =>
  intro hjl
  obtain ⟨a1, a2⟩ := ih (by omega)
  rw [show k + (d + 1) = (k + d) + 1 from rfl] at *
  generalize hjd : k + d = j at *
  have hj : k ≤ j := by omega
  simp only [EL]
  by_cases hSj : S j = true
  ·have hjk : k < j := by
    rcases Nat.lt_or_ge k j with h | h
    ·exact h
    ·have : j = k := by omega
     rw [this, hSk] at hSj; cases hSj
   have hnc : ¬ Jdk l.toArray (od l k) (od l j) (sd sp k) (sd sp j) = true := fun hc => by
    have := Ja4 ok hS (by omega) (hS j (by omega) hSj) (ok.ord j k (by omega) hjk hc)
    rw [hSk] at this; cases this
   rw [if_pos hSj]
   refine ⟨fun t ht => ?_, fun r hr => ?_⟩
   ·rw [← a1 t ht]
    exact Jbt _ (fun hd => hnc (clash_ld ht hd))
   ·rw [← a2 r hr]
    show (if _ then _ else _)[r]? = _
    split
    ·exact Wm _ _ r (fun p hp hpr => hnc (clash_rw hr (by rw [← hpr]; exact T_in _ _ _ _ p hp)))
    ·rfl
  ·rw [if_neg hSj]
   exact ⟨a1, a2⟩
theorem putD_comm {e : Xc} {d1 d2 : Option Nat} {v1 v2 : Value} (h : ∀ t, d1 = some t → d2 ≠ some t) : Jdh (Jdh e d1 v1) d2 v2 = Jdh (Jdh e d2 v2) d1 v1 := by
 funext t
 by_cases h1 : d1 = some t
 ·have h2 := h t h1
  subst h1
  rw [Jbt _ h2]
  exact Jia _ _ (fun hh => absurd rfl hh)
 ·rw [Jbt (d := d1) _ h1]
  exact Jia _ _ (fun _ => Jbt _ h1)
theorem setAll_comm (A B : List (Nat × Chunk)) (L : List Chunk) (h : ∀ p ∈ A, ∀ q ∈ B, p.1 ≠ q.1) : Vx (Vx L A) B = Vx (Vx L B) A := by
 apply List.ext_getElem?
 intro i
 by_cases hA : ∃ p ∈ A, p.1 = i
 ·obtain ⟨p, hp, hpi⟩ := hA
  rw [Wm B _ i (fun q hq hqi => h p hp q hq (by omega))]
  exact Jf8 A _ _ i (by simp [Jeo]) (Wm B _ i (fun q hq hqi => h p hp q hq (by omega))).symm
 ·have hA' : ∀ p ∈ A, p.1 ≠ i := fun p hp hpi => hA ⟨p, hp, hpi⟩
  rw [Wm A _ i hA']
  exact Jf8 B _ _ i (by simp [Jeo]) (Wm A _ i hA')
def W3 (S : Nat → Bool) (k : Nat) : Nat → Bool := fun i => if i = k then true else S i
def Jer (val : Nat → Value) (k : Nat) (v : Value) : Nat → Value := fun i => if i = k then v else val i
theorem Jke (S : Nat → Bool) (val : Nat → Value) (k : Nat) (v : Value) : ∀ j, j ≤ k → EL P l sp e0 L0 (W3 S k) (Jer val k v) j = EL P l sp e0 L0 S val j := by
 intro j
 induction j with
 | zero => intro _; rfl
 | succ j ih =>
  intro hj
  have hjk : j ≠ k := by omega
  simp only [EL, ih (by omega), W3, Jer, hjk, if_false]
theorem EL_step (ok : Ok n l sp) {S : Nat → Bool} {val : Nat → Value} (hS : Sc l S) {k : Nat} (hSk : S k = false) (v : Value) :
  ∀ j, k + 1 ≤ j → j ≤ l.length → EL P l sp e0 L0 (W3 S k) (Jer val k v) j =
   (Jdh (EL P l sp e0 L0 S val j).1 (od l k).dst v, if Xt l.toArray (od l k) (EL P l sp e0 L0 S val k).1 = true then Vx (EL P l sp e0 L0 S val j).2 ((sd sp k).T (EL P l sp e0 L0 S val k).1 (look (EL P l sp e0 L0 S val k).2) v) else (EL P l sp e0 L0 S val j).2) := by
 intro j hj
 obtain ⟨d, rfl⟩ := Nat.exists_eq_add_of_le hj
 clear hj
 induction d with
 | zero =>
  intro _
  have h1 : EL P l sp e0 L0 (W3 S k) (Jer val k v) (k + 1) = _ := rfl
  rw [h1]
  simp only [EL, Jke S val k v k (Nat.le_refl _), W3, Jer, if_true, hSk]
  rfl
 | succ d ih =>
  intro hjl
  have ih := ih (by omega)
  rw [show k + 1 + (d + 1) = (k + 1 + d) + 1 from rfl] at *
  generalize hjd : k + 1 + d = j at *
  have hjk : j ≠ k := by omega
  by_cases hSj : S j = true
  ·have hnc : ¬ Jdk l.toArray (od l k) (od l j) (sd sp k) (sd sp j) = true := fun hc => by
    have := Ja4 ok hS (by omega) (hS j (by omega) hSj) (ok.ord j k (by omega) (by omega) hc)
    rw [hSk] at this; cases this
   have e1 : ∀ t ∈ (od l j).looksAt l.toArray, Jdh (EL P l sp e0 L0 S val j).1 (od l k).dst v t = (EL P l sp e0 L0 S val j).1 t :=
    fun t ht => Jbt _ (fun hd => hnc (Jkh hd ht))
   have e2 : ∀ r, r ∈ (sd sp j).rds ∨ r ∈ (sd sp j).wrs → (if Xt l.toArray (od l k) (EL P l sp e0 L0 S val k).1 = true then Vx (EL P l sp e0 L0 S val j).2 ((sd sp k).T (EL P l sp e0 L0 S val k).1 (look (EL P l sp e0 L0 S val k).2) v) else (EL P l sp e0 L0 S val j).2)[r]? = (EL P l sp e0 L0 S val j).2[r]? := by
    intro r hr
    split
    ·exact Wm _ _ r (fun p hp hpr => hnc (Jhk (by rw [← hpr]; exact T_in _ _ _ _ p hp) hr))
    ·rfl
   have hT := T_loc (sd sp j) (e := Jdh (EL P l sp e0 L0 S val j).1 (od l k).dst v) (e' := (EL P l sp e0 L0 S val j).1)
    (lk := look (if Xt l.toArray (od l k) (EL P l sp e0 L0 S val k).1 = true then Vx (EL P l sp e0 L0 S val j).2 ((sd sp k).T (EL P l sp e0 L0 S val k).1 (look (EL P l sp e0 L0 S val k).2) v) else (EL P l sp e0 L0 S val j).2)) (lk' := look (EL P l sp e0 L0 S val j).2)
    (fun t ht => e1 t (ok.rs j t (by omega) ht)) (fun i hi => e2 i (.inl hi)) (val j)
   have hw := Jd1 (ops := l.toArray) e1
   have h1 : EL P l sp e0 L0 (W3 S k) (Jer val k v) (j + 1) = (Jdh (EL P l sp e0 L0 (W3 S k) (Jer val k v) j).1 (od l j).dst (val j), if Xt l.toArray (od l j) (EL P l sp e0 L0 (W3 S k) (Jer val k v) j).1 = true then Vx (EL P l sp e0 L0 (W3 S k) (Jer val k v) j).2 ((sd sp j).T (EL P l sp e0 L0 (W3 S k) (Jer val k v) j).1 (look (EL P l sp e0 L0 (W3 S k) (Jer val k v) j).2) (val j)) else (EL P l sp e0 L0 (W3 S k) (Jer val k v) j).2) := by
    simp [EL, W3, Jer, hjk, hSj]
   have h2 : EL P l sp e0 L0 S val (j + 1) = (Jdh (EL P l sp e0 L0 S val j).1 (od l j).dst (val j), if Xt l.toArray (od l j) (EL P l sp e0 L0 S val j).1 = true then Vx (EL P l sp e0 L0 S val j).2 ((sd sp j).T (EL P l sp e0 L0 S val j).1 (look (EL P l sp e0 L0 S val j).2) (val j)) else (EL P l sp e0 L0 S val j).2) := by
    simp [EL, hSj]
   rw [h1, h2, ih]
   simp only
   rw [hw, hT]
   refine Prod.ext ?_ ?_
   ·exact putD_comm (fun t ht1 ht2 => hnc (clash_dd ht1 ht2))
   ·show (if _ then _ else _) = (if _ then _ else _)
    by_cases hwj : Xt l.toArray (od l j) (EL P l sp e0 L0 S val j).1 = true <;> by_cases hwk : Xt l.toArray (od l k) (EL P l sp e0 L0 S val k).1 = true
    ·simp only [hwj, hwk, if_true]
     exact setAll_comm _ _ _ (fun p hp q hq hpq => hnc (Jhk (T_in _ _ _ _ p hp) (.inr (by rw [hpq]; exact T_in _ _ _ _ q hq))))
    ·simp only [hwj, hwk, if_true]; rfl
    ·simp only [hwj, hwk, if_true]; rfl
    ·simp only [hwj, hwk]; rfl
  ·have h1 : EL P l sp e0 L0 (W3 S k) (Jer val k v) (j + 1) = EL P l sp e0 L0 (W3 S k) (Jer val k v) j := by
    simp [EL, W3, hjk, hSj]
   have h2 : EL P l sp e0 L0 S val (j + 1) = EL P l sp e0 L0 S val j := by simp [EL, hSj]
   rw [h1, h2, ih]
def Qz (listed : Array Bool) : Nat → Bool := fun k => listed.getD k false
theorem cons_step (ok : Ok n l sp) {S : Nat → Bool} {val : Nat → Value} (hS : Sc l S) {k : Nat} (hk : k < l.length) (hSk : S k = false) (hc : Cons P l sp e0 L0 S val l.length) {v : Value}
  (hv : if Xt l.toArray (od l k) (EL P l sp e0 L0 S val k).1 = true then (sd sp k).V P (od l k) (EL P l sp e0 L0 S val k).1 (look (EL P l sp e0 L0 S val k).2) v else v = undef) :
  Cons P l sp e0 L0 (W3 S k) (Jer val k v) l.length := by
 intro j hj hSj
 by_cases hjk : j = k
 ·subst hjk
  rw [Jke S val j v j (Nat.le_refl _)]
  simpa [Jer] using hv
 ·have hSj' : S j = true := by simpa [W3, hjk] using hSj
  have hcj := hc j hj hSj'
  have hval : Jer val k v j = val j := by simp [Jer, hjk]
  rw [hval]
  by_cases hlt : j < k
  ·rw [Jke S val k v j (by omega)]
   exact hcj
  ·have hkj : k < j := by omega
   have hnc : ¬ Jdk l.toArray (od l k) (od l j) (sd sp k) (sd sp j) = true := fun hh => by
    have := Ja4 ok hS hj (hS j hj hSj') (ok.ord j k hj hkj hh)
    rw [hSk] at this; cases this
   rw [EL_step ok hS hSk v j (by omega) (by omega)]
   have e1 : ∀ t ∈ (od l j).looksAt l.toArray, Jdh (EL P l sp e0 L0 S val j).1 (od l k).dst v t = (EL P l sp e0 L0 S val j).1 t :=
    fun t ht => Jbt _ (fun hd => hnc (Jkh hd ht))
   have e2 : ∀ r, r ∈ (sd sp j).rds ∨ r ∈ (sd sp j).wrs → (if Xt l.toArray (od l k) (EL P l sp e0 L0 S val k).1 = true then Vx (EL P l sp e0 L0 S val j).2 ((sd sp k).T (EL P l sp e0 L0 S val k).1 (look (EL P l sp e0 L0 S val k).2) v) else (EL P l sp e0 L0 S val j).2)[r]? = (EL P l sp e0 L0 S val j).2[r]? := by
    intro r hr
    split
    ·exact Wm _ _ r (fun p hp hpr => hnc (Jhk (by rw [← hpr]; exact T_in _ _ _ _ p hp) hr))
    ·rfl
   simp only
   rw [Jd1 (ops := l.toArray) e1]
   split
   ·rename_i hw
    rw [if_pos hw] at hcj
    rw [V_locL (L' := (EL P l sp e0 L0 S val j).2) (sd sp j) (Region.noSelect_spec ok.nosel j _ · · (by simp [od, List.getD_eq_getElem?_getD, List.getElem?_eq_getElem hj])) (ops := l.toArray) e1 (fun t ht => e1 t (ok.rs j t hj ht)) (fun i hi => e2 i (.inl hi))]
    exact hcj
   ·rename_i hw
    rw [if_neg hw] at hcj
    exact hcj
theorem ready_mem {md : Region.Mode} {ops : Array Oper} {listed : Array Bool} {k : Nat} (h : k ∈ Region.ready md ops listed) :
  k < ops.size ∧ listed.getD k true = false ∧ ∃ o, ops[k]? = some o ∧ ∀ x ∈ o.after.toList, Region.binds md x = true → listed.getD x.on false = true := by
 unfold Region.ready at h
 rw [List.mem_filter] at h
 obtain ⟨h1, h2⟩ := h
 rw [List.mem_range] at h1
 simp only [Bool.and_eq_true, Bool.not_eq_true'] at h2
 obtain ⟨h2, h3⟩ := h2
 refine ⟨h1, h2, ops[k], Array.getElem?_eq_getElem h1, fun x hx hb => ?_⟩
 rw [Array.getElem?_eq_getElem h1] at h3
 simp only [Option.map_some, Option.getD_some] at h3
 have := Array.all_eq_true_iff_forall_mem.1 h3 x (by simpa using hx)
 simpa [hb] using this
theorem any_of (ok : Ok n l sp) (h : Sq P cx l.toArray (fun e L => At cx (Q .normal) e L) l sp e0 L0) : ∀ (fuel : Nat) (listed : Array Bool) (a : Act) (w : World) (val : Nat → Value), listed.size = l.length →
  Sc l (Qz listed) → Cons P l sp e0 L0 (Qz listed) val l.length →
  ((List.range l.length).filter fun k => !Qz listed k).length ≤ fuel →
  Sim n a (EL P l sp e0 L0 (Qz listed) val l.length).1 → Fr cx w → Sat cx w (EL P l sp e0 L0 (Qz listed) val l.length).2 →
  wpAny P .any l.toArray (lift n Q) fuel listed a w := by
 have final : ∀ (listed : Array Bool) (a : Act) (w : World) (val : Nat → Value), (∀ k, k < l.length → Qz listed k = true) → Cons P l sp e0 L0 (Qz listed) val l.length →
   Sim n a (EL P l sp e0 L0 (Qz listed) val l.length).1 → Fr cx w → Sat cx w (EL P l sp e0 L0 (Qz listed) val l.length).2 → lift n Q .normal a w := by
  intro listed a w val hall hc hs hF hS
  have he : ∀ k, k ≤ l.length → EL P l sp e0 L0 (Qz listed) val k = EL P l sp e0 L0 full val k := by
   intro k
   induction k with
   | zero => intro _; rfl
   | succ k ih => intro hk; simp only [EL, ih (by omega), hall k (by omega), full]
  have hcf : Cons P l sp e0 L0 full val l.length := fun j hj hf => by
   have := hc j hj (hall j hj)
   rwa [he j (by omega)] at this
  have h0 := sq_at ok h l.length (Nat.le_refl _) val hcf
  rw [List.drop_length, ok.len, List.drop_length, ← ok.len] at h0
  cases h0 with
  | nil hh =>
   rw [← he _ (Nat.le_refl _)] at hh
   exact ⟨_, hs, hh.out w hF hS⟩
 have ready_all : ∀ (listed : Array Bool), listed.size = l.length → Region.ready .any l.toArray listed = [] → ∀ k, k < l.length → Qz listed k = true := by
  intro listed hsz hr k
  induction k using Nat.strongRecOn with
  | _ k ih =>
   intro hk
   rcases Bool.eq_false_or_eq_true (Qz listed k) with hh | hh
   ·exact hh
   ·exfalso
    have : k ∈ Region.ready .any l.toArray listed := by
     unfold Region.ready
     rw [List.mem_filter]
     refine ⟨by simpa using hk, ?_⟩
     have hg : listed.getD k true = false := by
      have hh' : listed.getD k false = false := hh
      rw [Array.getD_eq_getD_getElem?, Array.getElem?_eq_getElem (by omega)] at hh' ⊢
      simpa using hh'
     have hok : l.toArray[k]? = some (od l k) := by simp [od, List.getD_eq_getElem?_getD, List.getElem?_eq_getElem hk]
     simp only [hg, Bool.not_false, Bool.true_and, hok, Option.map_some, Option.getD_some]
     rw [Array.all_eq_true_iff_forall_mem]
     intro x hx
     by_cases hb : Region.binds .any x = true
     ·have hlt := ok.back k x hk (by simpa using hx) hb
      have := ih x.on hlt (by omega)
      simp only [hb, Bool.not_true, Bool.false_or]
      exact this
     ·simp only [Bool.not_eq_true] at hb
      simp [hb]
    rw [hr] at this
    cases this
 intro fuel
 induction fuel with
 | zero =>
  intro listed a w val hsz hSc hc hcount hs hF hS
  have hall : ∀ k, k < l.length → Qz listed k = true := by
   intro k hk
   have h0 : (List.range l.length).filter (fun k => !Qz listed k) = [] := List.eq_nil_of_length_eq_zero (by omega)
   rw [List.filter_eq_nil_iff] at h0
   simpa using h0 k (by simpa using hk)
  refine ⟨?_, final listed a w val hall hc hs hF hS⟩
  cases hr : Region.ready .any l.toArray listed with
  | nil => rfl
  | cons x xs =>
   exfalso
   obtain ⟨h1, h2, _⟩ := ready_mem (md := .any) (ops := l.toArray) (listed := listed) (k := x) (by rw [hr]; simp)
   have h1' : x < l.length := by simpa using h1
   have := hall x h1'
   unfold Qz at this
   rw [Array.getD_eq_getD_getElem?, Array.getElem?_eq_getElem (by omega)] at this h2
   simp at this h2
   rw [this] at h2
   cases h2
 | succ fuel ih =>
  intro listed a w val hsz hSc hc hcount hs hF hS
  refine ⟨fun hr => final listed a w val (ready_all listed hsz hr) hc hs hF hS, fun k hk => ?_⟩
  obtain ⟨h1, h2, o, ho, hafter⟩ := ready_mem hk
  have hkl : k < l.length := by simpa using h1
  have hoe : o = od l k := by
   have : l[k]? = some o := by simpa using ho
   simp [od, List.getD_eq_getElem?_getD, this]
  subst hoe
  have hSk : Qz listed k = false := by
   unfold Qz
   rw [Array.getD_eq_getD_getElem?, Array.getElem?_eq_getElem (by omega)] at h2 ⊢
   simpa using h2
  have hclk : Jiu l (fun i => Qz listed i = true) k := fun x hx hb => hafter x hx hb
  obtain ⟨val', hv, hcf⟩ := fill ok h hSc hc k (by omega)
  have h0 := sq_at ok h k (by omega) val' hcf
  rw [drop_od hkl, drop_sd (by have := ok.len; omega)] at h0
  obtain ⟨a1, a2⟩ := agree_all (P := P) (e0 := e0) (L0 := L0) ok (S' := full) (val' := val') hSc (fun _ _ => rfl) (fun i hi => (hv i hi).symm) k hkl hclk
  obtain ⟨b1, b2⟩ := tail_agree (P := P) (e0 := e0) (L0 := L0) (val := val) ok hSc hSk l.length (by omega) (Nat.le_refl _)
  have hsel : ∀ cs b, (od l k).op ≠ .select cs b := (Region.noSelect_spec ok.nosel k _ · · (by simpa using ho))
  have hSn : Qz (listed.setIfInBounds k true) = W3 (Qz listed) k := by
   funext i
   unfold Qz W3
   simp only [Array.getD_eq_getD_getElem?, Array.getElem?_setIfInBounds]
   by_cases hik : i = k
   ·subst hik; simp [show i < listed.size by omega]
   ·have : ¬ k = i := fun e => hik e.symm
    simp [hik, this]
  have hScn : Sc l (W3 (Qz listed) k) := by
   intro j hj hSj x hx hb
   by_cases hjk : j = k
   ·subst hjk
    have := hclk x hx hb
    simp only [W3]
    split
    ·rfl
    ·exact this
   ·have hSj' : Qz listed j = true := by simpa [W3, hjk] using hSj
    have := hSc j hj hSj' x hx hb
    simp only [W3]
    split
    ·rfl
    ·exact this
  have hcnt : ((List.range l.length).filter fun i => !W3 (Qz listed) k i).length ≤ fuel := by
   have hsub : ((List.range l.length).filter fun i => !W3 (Qz listed) k i).length < ((List.range l.length).filter fun i => !Qz listed i).length := by
    have e1 : (List.range l.length).filter (fun i => !W3 (Qz listed) k i) = ((List.range l.length).filter fun i => !Qz listed i).filter fun i => decide (i ≠ k) := by
     rw [List.filter_filter]
     apply List.filter_congr
     intro i _
     unfold W3
     by_cases hik : i = k <;> simp [hik]
    rw [e1]
    refine List.length_filter_lt_length_iff_exists.2 ⟨k, ?_, by simp⟩
    rw [List.mem_filter]
    exact ⟨by simpa using hkl, by simp [hSk]⟩
   omega
  have hwa : Xt l.toArray (od l k) (EL P l sp e0 L0 (Qz listed) val l.length).1 = Xt l.toArray (od l k) (EL P l sp e0 L0 full val' k).1 := (Jd1 b1).trans (Jd1 a1)
  have hwk : Xt l.toArray (od l k) (EL P l sp e0 L0 (Qz listed) val k).1 = Xt l.toArray (od l k) (EL P l sp e0 L0 full val' k).1 := Jd1 a1
  have next : ∀ (v : Value) (a' : Act) (w' : World), (if Xt l.toArray (od l k) (EL P l sp e0 L0 full val' k).1 = true then (sd sp k).V P (od l k) (EL P l sp e0 L0 full val' k).1 (look (EL P l sp e0 L0 full val' k).2) v else v = undef) →
    Sim n a' (Jdh (EL P l sp e0 L0 (Qz listed) val l.length).1 (od l k).dst v) → Fr cx w' →
    Sat cx w' (if Xt l.toArray (od l k) (EL P l sp e0 L0 full val' k).1 = true then Vx (EL P l sp e0 L0 (Qz listed) val l.length).2 ((sd sp k).T (EL P l sp e0 L0 full val' k).1 (look (EL P l sp e0 L0 full val' k).2) v) else (EL P l sp e0 L0 (Qz listed) val l.length).2) →
    wpAny P .any l.toArray (lift n Q) fuel (listed.setIfInBounds k true) a' w' := by
   intro v a' w' hvv hs' hF' hS'
   have hstep := EL_step (P := P) (e0 := e0) (L0 := L0) ok hSc hSk v (val := val) l.length (by omega) (Nat.le_refl _)
   have hT : (sd sp k).T (EL P l sp e0 L0 (Qz listed) val k).1 (look (EL P l sp e0 L0 (Qz listed) val k).2) v = (sd sp k).T (EL P l sp e0 L0 full val' k).1 (look (EL P l sp e0 L0 full val' k).2) v :=
    T_loc _ (fun t ht => a1 t (ok.rs k t hkl ht)) (fun i hi => a2 i (.inl hi)) v
   refine ih (listed.setIfInBounds k true) a' w' (Jer val k v) (by simpa using hsz) (by rw [hSn]; exact hScn) ?_ (by rw [hSn]; exact hcnt) ?_ hF' ?_
   ·rw [hSn]
    refine cons_step ok hSc hkl hSk hc ?_
    rw [hwk]
    split
    ·rename_i hw
     rw [if_pos hw] at hvv
     rw [V_locL (L' := (EL P l sp e0 L0 full val' k).2) (sd sp k) hsel (ops := l.toArray) a1 (fun t ht => a1 t (ok.rs k t hkl ht)) (fun i hi => a2 i (.inl hi))]
     exact hvv
    ·rename_i hw
     rw [if_neg hw] at hvv
     exact hvv
   ·rw [hSn, hstep]; exact hs'
   ·rw [hSn, hstep]
    simp only
    rw [hwk, hT]
    exact hS'
  unfold wpOp
  rw [ho]
  simp only
  rw [Jfm hs, hwa]
  cases h0 with
  | pass hw h3 =>
   rw [hw]
   simp only [Bool.false_eq_true, if_false]
   refine next undef _ w (by rw [if_neg (by rw [hw]; simp)]) ?_ hF (by rw [if_neg (by rw [hw]; simp)]; exact hS)
   cases hd : (od l k).dst with
   | none => exact hs
   | some d => exact hs.put (ok.dst k d hkl hd) undef
  | take hw hi hl h3 =>
   rw [hw, if_pos rfl]
   refine .inl ?_
   have hr := hl.out w _ hF hS (by rw [Jgm, Jgm]) (fun i hi => (b2 i hi).trans (a2 i hi))
   have hev : execOp (ev (EL P l sp e0 L0 full val' k).1) (od l k) = execOp (ev (EL P l sp e0 L0 (Qz listed) val l.length).1) (od l k) :=
    ev_loc hsel (ops := l.toArray) (fun t ht => ((b1 t ht).trans (a1 t ht)).symm)
   unfold RunsTo at hr
   rw [hev] at hr
   unfold Oper.wp
   rw [hs.ev]
   have put : ∀ v : Value, Sim n (a.put (od l k).dst v) (Jdh (EL P l sp e0 L0 (Qz listed) val l.length).1 (od l k).dst v) := by
    intro v
    cases hd : (od l k).dst with
    | none => exact hs
    | some d => exact hs.put (ok.dst k d hkl hd) v
   have go : ∀ v w', (sd sp k).V P (od l k) (EL P l sp e0 L0 full val' k).1 (look (EL P l sp e0 L0 full val' k).2) v ∧ Fr cx w' ∧ Sat cx w' (Vx (EL P l sp e0 L0 (Qz listed) val l.length).2 ((sd sp k).T (EL P l sp e0 L0 full val' k).1 (look (EL P l sp e0 L0 full val' k).2) v)) →
     wpAny P .any l.toArray (lift n Q) fuel (listed.setIfInBounds k true) (a.put (od l k).dst v) w' :=
    fun v w' ⟨g1, g2, g3⟩ => next v _ w' (by rw [if_pos hw]; exact g1) (put v) g2 (by rw [if_pos hw]; exact g3)
   generalize (execOp (ev (EL P l sp e0 L0 (Qz listed) val l.length).1) (od l k)).run P w = r at *
   cases r with
   | halt x w' => exact hr.elim
   | ok nx w' =>
    cases nx with
    | value v => exact go v w' hr
    | skip => exact go undef w' hr
    | enter f args =>
     show Calls P f args w' _
     refine Calls.mono hr ?_
     rintro en w'' ⟨v, rfl, hk'⟩
     exact go v w'' hk'
    | _ => exact hr.elim
theorem EL_none (S : Nat → Bool) (h : ∀ k, S k = false) (val : Nat → Value) : ∀ k, EL P l sp e0 L0 S val k = (e0, L0) := by
 intro k
 induction k with
 | zero => rfl
 | succ k ih => simp only [EL, h k]; exact ih
end sound
def empC : Chunk := ⟨fun S _ => ∀ b, ¬ S b, fun _ _ _ _ h => h⟩
theorem Sat.emp {cx : Cx} {w : World} {L : List Chunk} (h : Sat cx w L) (hF : Fr cx w) : Sat cx w (L ++ [empC]) :=
 h.snoc hF (Grow.refl w) (S := fun _ => False) (fun _ h => h) (fun _ h => h.elim)
theorem Sat.pad {cx : Cx} {w : World} (hF : Fr cx w) : ∀ (k : Nat) {L : List Chunk}, Sat cx w L → Sat cx w (L ++ List.replicate k empC)
 | 0, L, h => by simpa using h
 | k + 1, L, h => by
  have := Sat.pad hF k (h.emp hF)
  rwa [List.append_assoc, List.singleton_append, ← List.replicate_succ] at this
theorem Q1 {P : Program} {n : Nat} {cx : Cx} {Q : Jae} {e : Xc} {L : List Chunk} {id : Nat} {l : List Oper} (sp : List Kd) (k : Nat) (hm : P.follows .mixedOrders = true)
  (h : Sq P cx l.toArray (fun e L => At cx (Q .normal) e L) l sp e (L ++ List.replicate k empC)) (hB : checkD n l sp = true) : At cx (WC P n (.region id l.toArray true) Q) e L :=
 ⟨fun w hF hS => ⟨fun a ha => by
  have ok := ok_of hB
  have hno : ∀ i, Qz (Array.replicate l.toArray.size false) i = false := by
   intro i
   simp only [Qz, Array.getD_eq_getD_getElem?, Array.getElem?_replicate]
   split <;> rfl
  refine wp_region_any hm (any_of ok h l.toArray.size (Array.replicate l.toArray.size false) a _ (fun _ => undef) (by simp) (fun k _ hk => by rw [hno k] at hk; cases hk) (fun j _ hj => by rw [hno j] at hj; cases hj) ?_ ?_ ⟨hF.os, hF.tape, hF.output, hF.size, hF.block⟩ ?_)
  ·exact Nat.le_trans (List.length_filter_le _ _) (by simp)
  ·rw [EL_none _ hno]; exact ha
  ·rw [EL_none _ hno]
   have hg : Grow w { w with drawn := w.drawn + 1 } := ⟨rfl, rfl, rfl, Nat.le_refl _, fun _ _ => rfl⟩
   exact (hS.pad hF k).grow hg⟩⟩
end Go.Vc

namespace Go.Vc
open Go
def Jho (v : Value) (cs : List Value) (T : TypeId) : Chunk :=
 match v with
 | .pointer (some a) => Ji a.block cs T
 | .slice (some a) _ _ => Ji a.block cs T
 | _ => empC
def Kd.ns (i : Nat) (cs : List Value) (T m : Nat) : Kd := .g [] [] [i] (fun _ _ v => ∃ b, v = .slice (some ⟨b, 0, none⟩) m m) (fun _ _ v => [Jho v cs T])
def Kd.st (a i : Nat) (cs : List Value) (T : TypeId) : Kd := .g [a] [i] [i] (fun _ _ v => v = undef) (fun vs _ _ => [Jho (vs.headD undef) cs T])
section rules
variable {P : Program} {n : Nat} {cx : Cx} {Q : Jae} {e : Xc} {L : List Chunk} {ops : Array Oper} {F : Xc → List Chunk → Prop} {rest : List Oper} {ss : List Kd}
theorem d_pass {o : Oper} {s : Kd} {d : Nat} (hw : Xt ops o e = false) (hd : o.dst = some d) (k : Sq P cx ops F rest ss (upd e d undef) L) : Sq P cx ops F (o :: rest) (s :: ss) e L :=
 .pass hw (by rw [hd]; exact k)
theorem Qy {o : Oper} {d : Nat} {v : Value} (hw : Xt ops o e = true) (hd : o.dst = some d) (hr : ∀ w, (execOp (ev e) o).run P w = .ok (.value v) w)
  (k : Sq P cx ops F rest ss (upd e d v) L) : Sq P cx ops F (o :: rest) (.p :: ss) e L := by
 refine .take hw ⟨v, hr⟩ ⟨fun w L' hF hS _ _ => ?_⟩ fun v' hv' => ?_
 ·unfold RunsTo
  rw [hr]
  exact ⟨hr, hF, hS⟩
 ·have h1 := hv' default
  rw [hr] at h1
  have : v = v' := by simpa using h1
  subst this
  rw [hd]
  exact k
theorem d_det {o : Oper} {d : Nat} {v : Value} {rds : List Nat} (hw : Xt ops o e = true) (hd : o.dst = some d)
  (h : ∀ w L', Fr cx w → Sat cx w L' → (∀ i ∈ rds, L'[i]? = L[i]?) → RunsTo P (ev e) o w fun v' w' => v' = v ∧ Grow w w')
  (k : Sq P cx ops F rest ss (upd e d v) L) : Sq P cx ops F (o :: rest) (.d rds v :: ss) e L := by
 refine .take hw ⟨v, rfl⟩ ⟨fun w L' hF hS _ hi => ?_⟩ fun v' hv' => ?_
 ·refine (h w L' hF hS fun i hm => hi i (.inl hm)).mono fun v' w' ⟨h1, h2⟩ => ?_
  exact ⟨h1, hF.grow h2, hS.grow h2⟩
 ·have : v' = v := hv'
  subst this
  rw [hd]
  exact k
variable {d : Nat} {ty : TypeId} {pos : String} {af : Array Edge} {g : Option (Nat × Bool)}
theorem Jej {i : Nat} {T T0 b o : Nat} {A : Operand} {cs : List Value} {v : Value} (hA : ∀ w, (isAgg T).run P w = .ok false w)
  (hw : Xt ops ⟨some d, .load T A, ty, pos, af, g⟩ e = true) (hp : ev e A = .pointer (some ⟨b, o, none⟩)) (hL : L[i]? = some (Ji b cs T0)) (hv : rg cs o = some v)
  (k : Sq P cx ops F rest ss (upd e d v) L) : Sq P cx ops F (⟨some d, .load T A, ty, pos, af, g⟩ :: rest) (.d [i] v :: ss) e L :=
 d_det hw rfl (fun w L' hF hS hi => by
  have hc := Jdq (o := o) (Xf hS ((hi i (by simp)).trans hL))
  rw [← rg_eq, hv] at hc
  unfold RunsTo
  have : (execOp (ev e) ⟨some d, .load T A, ty, pos, af, g⟩).run P w = .ok (.value v) w := by
   simp [execOp, Instr.loadAt, Instr.sureAddr, hp, Jbl hA hc]
  rw [this]
  exact ⟨rfl, Grow.refl w⟩) k
theorem Jef {i : Nat} {T T0 b o sz : Nat} {A : Operand} {cs vs : List Value} (hA : ∀ w, (isAgg T).run P w = .ok true w) (hs : ∀ w, (sizeOf T).run P w = .ok sz w)
  (hw : Xt ops ⟨some d, .load T A, ty, pos, af, g⟩ e = true) (hp : ev e A = .pointer (some ⟨b, o, none⟩)) (hL : L[i]? = some (Ji b cs T0)) (hv : rd cs o sz = some vs)
  (k : Sq P cx ops F rest ss (upd e d (.agg vs.toArray)) L) : Sq P cx ops F (⟨some d, .load T A, ty, pos, af, g⟩ :: rest) (.d [i] (.agg vs.toArray) :: ss) e L :=
 d_det hw rfl (fun w L' hF hS hi => by
  obtain ⟨h1, h2⟩ := Jh9 hv
  have hr := Wb (P := P) (w := w) (b := b) (o := o) hA hs h1 (fun j v hj => by rw [Jdq (Xf hS ((hi i (by simp)).trans hL))]; exact h2 j v hj)
  unfold RunsTo
  have : (execOp (ev e) ⟨some d, .load T A, ty, pos, af, g⟩).run P w = .ok (.value (.agg vs.toArray)) w := by
   simp [execOp, Instr.loadAt, Instr.sureAddr, hp, hr]
  rw [this]
  exact ⟨rfl, Grow.refl w⟩) k
theorem Jg7 {f : FuncId} {A : Array Operand} {tys : Array TypeId} {args : List Value} {v : Value} (h : Ret P f args v) (hc : ∀ args w, (callFunc f args).run P w = .ok (.enter f args) w)
  (hw : Xt ops ⟨some d, .call ⟨.value (.func f), A, tys⟩, ty, pos, af, g⟩ e = true) (ha : A.toList.map (ev e) = args)
  (k : Sq P cx ops F rest ss (upd e d v) L) : Sq P cx ops F (⟨some d, .call ⟨.value (.func f), A, tys⟩, ty, pos, af, g⟩ :: rest) (.d [] v :: ss) e L :=
 d_det hw rfl (fun w L' _ _ _ => by
  unfold RunsTo
  rw [Jez hc ha]
  exact h w) k
theorem Jis {o : Oper} {i m : Nat} {T : TypeId} {cs : List Value} (hw : Xt ops o e = true) (hd : o.dst = some d)
  (hr : ∀ w, (execOp (ev e) o).run P w = .ok (.value (.slice (some ⟨w.heap.size, 0, none⟩) m m)) (w.alloc (.cells cs.toArray T))) (hL : L[i]? = some empC)
  (k : ∀ b, Sq P cx ops F rest ss (upd e d (.slice (some ⟨b, 0, none⟩) m m)) (L.set i (Ji b cs T))) : Sq P cx ops F (o :: rest) (.ns i cs T m :: ss) e L := by
 refine .take hw ⟨.slice (some ⟨0, 0, none⟩) m m, 0, rfl⟩ ⟨fun w L' hF hS _ hi => ?_⟩ fun v' hv' => ?_
 ·unfold RunsTo
  rw [hr]
  refine ⟨⟨_, rfl⟩, hF.grow (Jbq w _), ?_⟩
  refine hS.set hF ((hi i (.inr (by simp [Kd.ns, Kd.wrs]))).trans hL) (by simp) fun S _ hSo => ⟨fun x => x = w.heap.size, ⟨fun _ => Iff.rfl, heap_alloc_new w _⟩, fun b hb => ?_, fun b hb _ => (by first | exact heap_alloc_old w _ b hb | exact heap_alloc_old w _ hb)⟩
  subst hb
  exact ⟨by simp, .inr (Nat.le_refl _)⟩
 ·obtain ⟨b, rfl⟩ : ∃ b, v' = .slice (some ⟨b, 0, none⟩) m m := hv'
  rw [hd]
  exact k b
theorem run_alloc {d : Option Nat} {T : TypeId} {z : Value} {cs : List Value} (hz : ∀ w, (zeroValue T).run P w = .ok z w) (hc : z.cells.toList = cs) (w : World) :
  (execOp (ev e) ⟨d, .alloc T, ty, pos, af, g⟩).run P w = .ok (.value (.pointer (some ⟨w.heap.size, 0, none⟩))) (w.alloc (.cells cs.toArray T)) := by
 subst hc
 simp [execOp, Instr.alloc, hz, Jgx]
theorem run_store {T T0 b o sz : Nat} {A X : Operand} {x : Value} {cs cs' vs : List Value} {w : World} (hs : ∀ w, (sizeOf T).run P w = .ok sz w) (hp : ev e A = .pointer (some ⟨b, o, none⟩)) (hx : ev e X = x) (hc : x.cells.toList = vs) (hsz : vs.length = sz)
  (hpos : Nat.blt 0 sz = true) (hone : vs.all Value.oneCell' = true) (hv : wr cs o vs = some cs') (hb : w.heap[b]? = some (.cells cs.toArray T0 (0, 0))) :
  (execOp (ev e) ⟨none, .store T A X, ty, pos, af, g⟩).run P w = .ok .skip (w.setRow b cs'.toArray) := by
 have hpos' : 0 < vs.length := by rw [hsz]; simpa using hpos
 obtain ⟨h1, h2⟩ := wr_eq hv hpos'
 have hst := run_storeCells_at P b o T0 vs 0 cs.toArray w hb (by simpa using h1) (by simpa using hone)
 have hsz' : x.cells.size = sz := by rw [← hsz, ← hc]; simp
 simp only [Nat.add_zero, List.append_assoc] at hst
 simp only [execOp, Instr.storeAt, Instr.sureAddr, storeVar, hp, hx, Sem.run_bind, Sem.run_pure, Result.andThen_ok, hs, hsz', ne_eq, not_true_eq_false, if_false, hc, hst]
 rw [h2]; simp
theorem d_store {i : Nat} {a T T0 b o sz : Nat} {X : Operand} {x : Value} {cs cs' vs : List Value} (hs : ∀ w, (sizeOf T).run P w = .ok sz w)
  (hw : Xt ops ⟨none, .store T (.tmp a) X, ty, pos, af, g⟩ e = true) (hp : e a = .pointer (some ⟨b, o, none⟩)) (hx : ev e X = x) (hc : x.cells.toList = vs) (hsz : vs.length = sz) (hpos : Nat.blt 0 sz = true)
  (hone : vs.all Value.oneCell' = true) (hL : L[i]? = some (Ji b cs T0)) (hv : wr cs o vs = some cs')
  (k : Sq P cx ops F rest ss e (L.set i (Ji b cs' T0))) : Sq P cx ops F (⟨none, .store T (.tmp a) X, ty, pos, af, g⟩ :: rest) (.st a i cs' T0 :: ss) e L := by
 have hbox : Jho (([a].map e).headD undef) cs' T0 = Ji b cs' T0 := by
  have : ([a].map e).headD undef = e a := rfl
  rw [this, hp]; rfl
 refine .take hw ⟨undef, rfl⟩ ⟨fun w L' hF hS _ hi => ?_⟩ fun v' hv' => ?_
 ·have hL' := (hi i (.inl (by simp [Kd.st, Kd.rds]))).trans hL
  have hb := Xf hS hL'
  unfold RunsTo
  rw [run_store hs (by exact hp) hx hc hsz hpos hone hv hb]
  have hset := setRow_heap w b cs.toArray cs'.toArray T0 (0, 0) hb
  refine ⟨rfl, ⟨hF.os, hF.tape, hF.output, by simpa using hF.size, fun c hcn => ?_⟩, ?_⟩
  ·rw [setRow_other w b c _ (fun e => ?_)]
   ·exact hF.block c hcn
   ·obtain ⟨fp, f1, f2, _⟩ := hS.out
    have := (f2 i b ((f1 i _ hL').1 b |>.2 rfl)).2.2
    subst e
    exact hcn this
  ·show Sat cx _ (L'.set i (Jho (([a].map e).headD undef) cs' T0))
   rw [hbox]
   exact hS.set hF hL' (by simp) fun S hSp hSo => ⟨S, ⟨hSp.1, hset⟩, fun c hc => ⟨by simpa using (hSo c hc).1, .inl hc⟩, fun c _ hcS => setRow_other w b c _ (fun e => hcS ((hSp.1 c).2 e))⟩
 ·show Sq P cx ops F rest ss e (L.set i (Jho (([a].map e).headD undef) cs' T0))
  rw [hbox]
  exact k
theorem Vz (h : F e L) : Sq P cx ops F [] [] e L := .nil h
theorem splitS {os : List Oper} {b : Bool} (ht : b = true → Sq P cx ops F os ss (upd e d (.bool true)) L) (hf : b = false → Sq P cx ops F os ss (upd e d (.bool false)) L) : Sq P cx ops F os ss (upd e d (.bool b)) L := by
 cases b
 ·exact hf rfl
 ·exact ht rfl
end rules
end Go.Vc

namespace Go.Vc
open Go
section rules
variable {P : Program} {n : Nat} {cx : Cx} {Q : Jae} {e : Xc} {L : List Chunk} {ops : Array Oper} {rest : List Oper} {F : Xc → List Chunk → Prop} {ss : List Kd}
variable {ty : TypeId} {pos : String} {af : Array Edge} {g : Option (Nat × Bool)}
theorem r_eqlA {d : Option Nat} {t t' : TypeId} {X Y : Operand} {xs ys : Array Value} {b : Bool} (hg : P.eqGuardType P.depth t = false) (heq : ∀ w, (Op.equalIn Op.maxDepth t (.agg xs) (.agg ys)).run P w = .ok b w)
  (hx : ev e X = .agg xs) (hy : ev e Y = .agg ys) (w : World) :
  (execOp (ev e) ⟨d, .binOp .eql t X Y t', ty, pos, af, g⟩).run P w = .ok (.value (.bool b)) w := by
 simp [execOp, hx, hy, eqGuard, binOp, Op.equal, heq, hg]
structure WR (P : Program) (n : Nat) (m : Nat) (c : Code) (Q : Jae) (e : Xc) (w : World) : Prop where
 out : ∀ a, Sim n a e → Code.rounds P c (lift n Q) m a w
def Keeps (M : List Nat) (e e' : Xc) : Prop := ∀ t, (M.any fun x => Nat.beq x t) = false → e' t = e t
theorem Keeps.refl (M : List Nat) (e : Xc) : Keeps M e e := fun _ _ => rfl
structure RoundK {σ : Type} (cx : Cx) (M : List Nat) (e0 : Xc) (st : σ → List (Nat × Value)) (hp : σ → List Chunk) (I : σ → Prop) (m : Nat) (μ : σ → Nat) (e : Xc) (w : World) : Prop where
 out : ∃ s, Jhs e (st s) ∧ Keeps M e0 e ∧ Fr cx w ∧ Sat cx w (hp s) ∧ I s ∧ μ s < m
def Row (w : World) (a : Option Addr) (sz : Nat) (xs : List (List Value)) : Prop :=
 xs = [] ∨ ∃ b off, a = some ⟨b, off, none⟩ ∧ ∀ (i : Nat) (x : List Value), xs[i]? = some x → x.length = sz ∧ ∀ (j : Nat) (v : Value), x[j]? = some v → w.cell? ⟨b, off + i * sz + j, none⟩ = some v
theorem Row.some {w : World} {a : Option Addr} {sz : Nat} {xs : List (List Value)} (h : Row w a sz xs) {i : Nat} (hi : i < xs.length) : ∃ b off, a = some ⟨b, off, none⟩ := by
 rcases h with h | ⟨b, off, ha, _⟩
 ·subst h; simp at hi
 ·exact ⟨b, off, ha⟩
theorem Jc4 {sz : Nat} : ∀ (xs : List (List Value)) (i : Nat) (x : List Value), (xs.all fun x => Nat.beq x.length sz) = true → xs[i]? = some x → ∀ (j : Nat) (v : Value), x[j]? = some v → xs.flatten[i * sz + j]? = some v
 | [], i, x, _, hx, _, _, _ => by simp at hx
 | y :: ys, i, x, hl, hx, j, v, hv => by
  simp only [List.all_cons, Bool.and_eq_true] at hl
  have hy : y.length = sz := by simpa using hl.1
  have hj : j < x.length := by
   rcases Nat.lt_or_ge j x.length with h | h
   ·exact h
   ·simp [List.getElem?_eq_none h] at hv
  cases i with
  | zero =>
   simp at hx; subst hx
   simp only [List.flatten_cons, Nat.zero_mul, Nat.zero_add]
   rw [List.getElem?_append_left hj]
   exact hv
  | succ i =>
   simp at hx
   have := Jc4 ys i x hl.2 hx j v hv
   simp only [List.flatten_cons]
   rw [List.getElem?_append_right (by rw [Nat.succ_mul]; omega)]
   rw [show (i + 1) * sz + j - y.length = i * sz + j from by rw [Nat.succ_mul]; omega]
   exact this
theorem Vl {w : World} {i b : Nat} {cs : List Value} {T : TypeId} {sz : Nat} {xs : List (List Value)} (hS : Sat cx w L) (hL : L[i]? = some (Ji b cs T)) (hcs : xs.flatten = cs) (hlen : (xs.all fun x => Nat.beq x.length sz) = true) : Row w (some ⟨b, 0, none⟩) sz xs := by
 refine .inr ⟨b, 0, rfl, fun i x hx => ⟨?_, fun j v hv => ?_⟩⟩
 ·have := List.all_eq_true.1 hlen x (List.mem_of_getElem? hx)
  simpa using this
 ·rw [Jdq (Xf hS hL), ← hcs, Nat.zero_add]
  exact Jc4 xs i x hlen hx j v hv
theorem Row.at {w : World} {a : Option Addr} {sz : Nat} {α : Type} {f : α → List Value} {xs : List α} (h : Row w a sz (xs.map f)) {k : Nat} (hk : k < xs.length) : ∃ b off, a = Option.some ⟨b, off, none⟩ :=
 h.some (i := k) (by simpa using hk)
def Yb (a : Option Addr) (k : Nat) : Value :=
 match a with
 | some x => .pointer (some ⟨x.block, x.off + k, none⟩)
 | none => undef
theorem U6 {d : Option Nat} {X : Operand} {a : Option Addr} {m c : Nat} {t u : TypeId} (hu : P.underlying t = some (.slice u)) (hx : ev e X = .slice a m c) (w : World) :
  (execOp (ev e) ⟨d, .call ⟨.builtin .len, #[X], #[t]⟩, ty, pos, af, g⟩).run P w = .ok (.value (.int .i64 m)) w := by
 simp [execOp, resolve, invoke, builtin, hx, Builtin.len_, run_underlying hu, goInt]
theorem r_lenS {d : Option Nat} {X : Operand} {s : ByteArray} {t : TypeId} (hu : P.underlying t = some .string) (hx : ev e X = .string s) (w : World) :
  (execOp (ev e) ⟨d, .call ⟨.builtin .len, #[X], #[t]⟩, ty, pos, af, g⟩).run P w = .ok (.value (.int .i64 s.size)) w := by
 simp [execOp, resolve, invoke, builtin, hx, Builtin.len_, run_underlying hu, goInt]
theorem r_index {d : Option Nat} {X I : Operand} {a : Option Addr} {m c : Nat} {t u sz : Nat} {k : IntKind} {i : Int} (hu : P.underlying t = some (.slice u)) (hs : ∀ w, (sizeOf u).run P w = .ok sz w)
  (hx : ev e X = .slice a m c) (hi : ev e I = .int k i) (ha : ∃ b off, a = some ⟨b, off, none⟩) (h0 : 0 ≤ i) (h1 : i < m) (w : World) :
  (execOp (ev e) ⟨d, .indexAddr t X I, ty, pos, af, g⟩).run P w = .ok (.value (Yb a (i.toNat * sz))) w := by
 obtain ⟨b, off, rfl⟩ := ha
 simp [execOp, Instr.indexAt, hx, hi, asIntOf, run_underlying hu, h0, h1, hs, Yb, Addr.add_lit]
theorem Jhh {d : Option Nat} {T fld k fo ft fsz bo : Nat} {a : Option Addr} {nm tg pk : String} {em : Bool} {X : Operand} {fs : Array Field} (hu : ∀ w, (underlying T).run P w = .ok (.struct fs) w)
  (hf : fs[fld]? = some ⟨nm, ft, fo, em, tg, pk, bo⟩) (hs : ∀ w, (sizeOf ft).run P w = .ok fsz w) (hsz : Nat.blt 0 fsz = true) (hp : ev e X = Yb a k) (ha : ∃ b off, a = some ⟨b, off, none⟩) (w : World) :
  (execOp (ev e) ⟨d, .fieldAddr T X fld, ty, pos, af, g⟩).run P w = .ok (.value (Yb a (k + fo))) w := by
 obtain ⟨b, off, rfl⟩ := ha
 rw [J0 hu hf hs hsz hp w]
 simp [Yb, Nat.add_assoc]
theorem run_loadP1 {T k : Nat} {d : Option Nat} {a : Option Addr} {A : Operand} {sz i j : Nat} {xs : List (List Value)} {x : List Value} {v : Value} {w : World} (hA : ∀ w, (isAgg T).run P w = .ok false w)
  (hp : ev e A = Yb a k) (hk : k = i * sz + j) (hr : Row w a sz xs) (hx : xs[i]? = some x) (hv : rg x j = some v) :
  (execOp (ev e) ⟨d, .load T A, ty, pos, af, g⟩).run P w = .ok (.value v) w := by
 rcases hr with rfl | ⟨b, off, rfl, h⟩
 ·simp at hx
 ·have hc := (h i x hx).2 j v (by rw [← rg_eq]; exact hv)
  subst hk
  have hp' : ev e A = .pointer (some ⟨b, off + i * sz + j, none⟩) := by rw [hp]; simp [Yb, Nat.add_assoc]
  simp [execOp, Instr.loadAt, Instr.sureAddr, hp', Jbl hA hc]
theorem run_loadPN {T k m : Nat} {d : Option Nat} {a : Option Addr} {A : Operand} {sz i j : Nat} {xs : List (List Value)} {x vs : List Value} {w : World} (hA : ∀ w, (isAgg T).run P w = .ok true w) (hs : ∀ w, (sizeOf T).run P w = .ok m w)
  (hp : ev e A = Yb a k) (hk : k = i * sz + j) (hr : Row w a sz xs) (hx : xs[i]? = some x) (hv : rd x j m = some vs) :
  (execOp (ev e) ⟨d, .load T A, ty, pos, af, g⟩).run P w = .ok (.value (.agg vs.toArray)) w := by
 rcases hr with rfl | ⟨b, off, rfl, h⟩
 ·simp at hx
 ·obtain ⟨h1, h2⟩ := Jh9 hv
  subst hk
  have hp' : ev e A = .pointer (some ⟨b, off + i * sz + j, none⟩) := by rw [hp]; simp [Yb, Nat.add_assoc]
  have := Wb (P := P) (w := w) (b := b) (o := off + i * sz + j) hA hs h1 (fun q v hq => by
   rw [Nat.add_assoc]; exact (h i x hx).2 (j + q) v (h2 q v hq))
  simp [execOp, Instr.loadAt, Instr.sureAddr, hp', this]
theorem Q7 {o : Oper} {d : Nat} {v : Value} (hr : ∀ w, Fr cx w → Sat cx w L → (execOp (ev e) o).run P w = .ok (.value v) w) (hw : Xt ops o e = true) (hd : o.dst = some d) (hn : Nat.blt d n = true)
  (k : At cx (WL P n ops Q rest) (upd e d v) L) : At cx (WL P n ops Q (o :: rest)) e L :=
 Jd6 hw hd hn fun w hF hS => ⟨v, w, hr w hF hS, k.out w hF hS⟩
theorem d_read {o : Oper} {d : Nat} {v : Value} (hr : ∀ w, Fr cx w → (execOp (ev e) o).run P w = .ok (.value v) w) (hw : Xt ops o e = true) (hd : o.dst = some d)
  (k : Sq P cx ops F rest ss (upd e d v) L) : Sq P cx ops F (o :: rest) (.d [] v :: ss) e L :=
 d_det hw hd (fun w _ hF _ _ => by unfold RunsTo; rw [hr w hF]; exact ⟨rfl, Grow.refl w⟩) k
theorem Qb {d : Nat} {f : FuncId} {A : Array Operand} {tys : Array TypeId} {args : List Value} {v : Value} (h : ∀ w, Fr cx w → Sat cx w L → Does P f args.toArray w fun v' w' => v' = v ∧ Grow w w') (hc : ∀ args w, (callFunc f args).run P w = .ok (.enter f args) w)
  (hw : Xt ops ⟨some d, .call ⟨.value (.func f), A, tys⟩, ty, pos, af, g⟩ e = true) (hn : Nat.blt d n = true) (ha : A.toList.map (ev e) = args)
  (k : At cx (WL P n ops Q rest) (upd e d v) L) : At cx (WL P n ops Q (⟨some d, .call ⟨.value (.func f), A, tys⟩, ty, pos, af, g⟩ :: rest)) e L :=
 l_calls hw rfl hn (Jez hc ha) fun w hF hS => (h w hF hS).mono fun v' w' ⟨hv, hg⟩ => by
  subst hv
  exact k.out w' (hF.grow hg) (hS.grow hg)
theorem Jek {d : Nat} {f : FuncId} {A : Array Operand} {tys : Array TypeId} {args : List Value} {v : Value} {rds : List Nat} (h : ∀ w L', Fr cx w → Sat cx w L' → (∀ i ∈ rds, L'[i]? = L[i]?) → Does P f args.toArray w fun v' w' => v' = v ∧ Grow w w') (hc : ∀ args w, (callFunc f args).run P w = .ok (.enter f args) w)
  (hw : Xt ops ⟨some d, .call ⟨.value (.func f), A, tys⟩, ty, pos, af, g⟩ e = true) (ha : A.toList.map (ev e) = args)
  (k : Sq P cx ops F rest ss (upd e d v) L) : Sq P cx ops F (⟨some d, .call ⟨.value (.func f), A, tys⟩, ty, pos, af, g⟩ :: rest) (.d rds v :: ss) e L :=
 d_det hw rfl (fun w L' hF hS hi => by
  unfold RunsTo
  rw [Jez hc ha]
  exact h w L' hF hS hi) k
theorem r_ext {d : Option Nat} {f : FuncId} {A : Array Operand} {tys : Array TypeId} {args : List Value} {v : Value} (hc : ∀ w, (callFunc f args.toArray).run P w = .ok (.value v) w) (ha : A.toList.map (ev e) = args) (w : World) :
  (execOp (ev e) ⟨d, .call ⟨.value (.func f), A, tys⟩, ty, pos, af, g⟩).run P w = .ok (.value v) w := by
 subst ha
 have : (A.toList.map (ev e)).toArray = A.map (ev e) := by rw [← Array.toList_map, Array.toArray_toList]
 rw [this] at hc
 simp only [execOp, resolve, ev, Deferred.ofValue, Sem.run_bind, Sem.run_pure, Result.andThen_ok, invoke, hc, Array.append_empty, Array.empty_append]
theorem fold_set (off : Nat) : ∀ (vs : List Value) (j : Nat) (cs : Array Value), off + j + vs.length ≤ cs.size →
  ((vs.zipIdx j).foldl (fun cs (p : Value × Nat) => cs.setIfInBounds (off + p.2) p.1) cs).toList = cs.toList.take (off + j) ++ vs ++ cs.toList.drop (off + j + vs.length)
 | [], j, cs, _ => by simp
 | v :: vs, j, cs, h => by
  simp only [List.zipIdx_cons, List.foldl_cons]
  rw [fold_set off vs (j + 1) _ (by simp at h ⊢; omega)]
  have hlt : off + j < cs.size := by simp at h; omega
  simp only [Array.toList_setIfInBounds, List.length_cons]
  have e1 : (cs.toList.set (off + j) v).take (off + (j + 1)) = cs.toList.take (off + j) ++ [v] := by
   rw [show off + (j + 1) = (off + j) + 1 from by omega, List.take_add_one]
   rw [List.take_set_of_le (Nat.le_refl _)]
   simp [hlt]
  have e2 : (cs.toList.set (off + j) v).drop (off + (j + 1) + vs.length) = cs.toList.drop (off + j + (vs.length + 1)) := by
   rw [List.drop_set_of_lt (by omega)]
   congr 1; omega
  rw [e1, e2]
  simp
theorem fill_all (sz : Nat) : ∀ (vs : List Value) (i : Nat) (cs : Array Value), (∀ v ∈ vs, v.cells.size = sz) → cs.size = (i + vs.length) * sz →
  ∃ out : Array Value, Instr.fill (fun i => some (i * sz, sz)) cs ((vs.zipIdx i).map fun p => (p.2, p.1)) = some out ∧ out.toList = cs.toList.take (i * sz) ++ vs.flatMap fun v => v.cells.toList
 | [], i, cs, _, hsz => ⟨cs, rfl, by simp at hsz; simp [← hsz, List.take_of_length_le]⟩
 | v :: vs, i, cs, hv, hsz => by
  have h1 : v.cells.size = sz := hv v (by simp)
  have hle : i * sz + v.cells.size ≤ cs.size := by
   rw [h1, hsz, ← Nat.succ_mul]; exact Nat.mul_le_mul_right _ (by simp)
  have hf := fold_set (i * sz) v.cells.toList 0 cs (by simpa using hle)
  obtain ⟨out, ho1, ho2⟩ := fill_all sz vs (i + 1) (v.cells.zipIdx.foldl (fun cs (p : Value × Nat) => cs.setIfInBounds (i * sz + p.2) p.1) cs) (fun u hu => hv u (by simp [hu])) (by
   have : (v.cells.zipIdx.foldl (fun cs (p : Value × Nat) => cs.setIfInBounds (i * sz + p.2) p.1) cs).size = cs.size := by
    rw [← Array.foldl_toList, ← Array.length_toList, Array.toList_zipIdx, hf]
    simp
    omega
   rw [this, hsz]; simp; congr 1; omega)
  refine ⟨out, ?_, ?_⟩
  ·simp only [List.zipIdx_cons, List.map_cons, Instr.fill]
   rw [if_neg (by simp [h1]; omega)]
   exact ho1
  ·rw [ho2, ← Array.foldl_toList, Array.toList_zipIdx, hf]
   simp only [List.flatMap_cons]
   rw [show (i + 1) * sz = i * sz + v.cells.toList.length from by rw [Nat.succ_mul]; simp [h1]]
   simp only [Nat.add_zero]
   have hl : (cs.toList.take (i * sz) ++ v.cells.toList).length = i * sz + v.cells.toList.length := by simp; omega
   rw [List.take_left' hl, List.append_assoc]
theorem Vw {d : Option Nat} {t u sz m : Nat} {parts : Array (Nat × Operand)} {z : Value} {vs : List Value} {cs : List Value} (hu : P.underlying t = some (.slice u)) (hs : ∀ w, (sizeOf u).run P w = .ok sz w) (hz : ∀ w, (zeroValue u).run P w = .ok z w)
  (hps : parts.toList.map (fun (i, x) => (i, ev e x)) = (vs.zipIdx 0).map fun p => (p.2, p.1)) (hm : vs.length = m) (hall : (vs.all fun v => Nat.beq v.cells.size sz) = true) (hb : Nat.ble (m * sz) 16777216 = true) (hcs : (vs.flatMap fun v => v.cells.toList) = cs) (w : World) :
  (execOp (ev e) ⟨d, .buildSlice t m parts, ty, pos, af, g⟩).run P w = .ok (.value (.slice (some ⟨w.heap.size, 0, none⟩) m m)) (w.alloc (.cells cs.toArray u)) := by
 have hps' : (parts.map fun (i, x) => (i, ev e x)).toList = (vs.zipIdx 0).map fun p => (p.2, p.1) := by rw [← hps, Array.toList_map]
 have hb' : m * sz ≤ 16777216 := by simpa using hb
 have hall' : ∀ v ∈ vs, v.cells.size = sz := fun v hv => by simpa using List.all_eq_true.1 hall v hv
 have key : ∀ cs0 : Array Value, cs0.size = m * sz → Instr.fill (fun i => some (i * sz, sz)) cs0 ((vs.zipIdx 0).map fun p => (p.2, p.1)) = some cs.toArray := by
  intro cs0 h0
  obtain ⟨out, h1, h2⟩ := fill_all sz vs 0 cs0 hall' (by rw [h0, Nat.zero_add, hm])
  rw [h1]
  congr 1
  apply Array.ext'
  rw [h2, ← hcs]; simp
 have h24 : ¬ m * sz > 2 ^ 24 := by omega
 by_cases h0 : m * sz = 0
 ·simp only [execOp, Instr.buildSlice, Sem.run_bind, run_underlying hu, Result.andThen_ok, hs, hps', h24, if_false]
  simp only [h0, if_true, Sem.run_pure, pure_bind]
  rw [key _ (by simp [h0])]
  simp [newRow, newObj, Sem.run]
 ·have hk := key ((Array.range (m * sz)).map (z.cells[· % z.cells.size]!)) (by simp)
  simp only [execOp, Instr.buildSlice, Sem.run_bind, run_underlying hu, Result.andThen_ok, hs, hps', h24, h0, if_false, hz, Sem.run_pure, hk]
  simp [newRow, newObj, Sem.run]
theorem Qj {d : Nat} {t u sz m : Nat} {parts : Array (Nat × Operand)} {z : Value} {vs cs : List Value} (hu : P.underlying t = some (.slice u)) (hs : ∀ w, (sizeOf u).run P w = .ok sz w) (hz : ∀ w, (zeroValue u).run P w = .ok z w)
  (hw : Xt ops ⟨some d, .buildSlice t m parts, ty, pos, af, g⟩ e = true) (hn : Nat.blt d n = true)
  (hps : parts.toList.map (fun (i, x) => (i, ev e x)) = (vs.zipIdx 0).map fun p => (p.2, p.1)) (hm : vs.length = m) (hall : (vs.all fun v => Nat.beq v.cells.size sz) = true) (hb : Nat.ble (m * sz) 16777216 = true) (hcs : (vs.flatMap fun v => v.cells.toList) = cs)
  (k : ∀ b, At cx (WL P n ops Q rest) (upd e d (.slice (some ⟨b, 0, none⟩) m m)) (L ++ [Ji b cs u])) : At cx (WL P n ops Q (⟨some d, .buildSlice t m parts, ty, pos, af, g⟩ :: rest)) e L :=
 Jd6 hw rfl hn fun w hF hS => ⟨.slice (some ⟨w.heap.size, 0, none⟩) m m, w.alloc (.cells cs.toArray u), Vw hu hs hz hps hm hall hb hcs w, (k w.heap.size).out _ (hF.grow (Jbq w _)) (sat_new hF hS cs u)⟩
end rules
end Go.Vc

namespace Go.Vc
open Go
structure Turn (w w' : World) (S : Nat → Prop) (C : Chunk) : Prop where
 os : w'.os = w.os
 tape : w'.tape = w.tape
 output : w'.output = w.output
 size : w.heap.size ≤ w'.heap.size
 block : ∀ b, b < w.heap.size → ¬ S b → w'.heap[b]? = w.heap[b]?
 out : ∃ S' : Nat → Prop, C.P S' w' ∧ ∀ b, S' b → b < w'.heap.size ∧ (S b ∨ w.heap.size ≤ b)
abbrev Zk : Nat → Prop := fun _ => False
structure Imp (C D : Chunk) : Prop where
 out : ∀ S w, C.P S w → D.P S w
theorem Imp.refl (C : Chunk) : Imp C C := ⟨fun _ _ h => h⟩
theorem Imp.of {C D : Chunk} (h : C = D) : Imp C D := h ▸ Imp.refl C
theorem Turn.grow {w w' : World} {C : Chunk} (h : Turn w w' Zk C) : Grow w w' := ⟨h.os, h.tape, h.output, h.size, fun k hk => h.block k hk (fun x => x)⟩
theorem X5 {σ : Type} {w0 : World} {S : Nat → Prop} {L : List Chunk} {v : Value} {G : σ → Value} {C : σ → Chunk} {i : Nat} {C0 : Chunk} (x : σ) (hL : L[i]? = some C0) (hv : v = G x) (hc : Imp C0 (C x)) :
  ∀ w, Fr ⟨w0, S⟩ w → Sat ⟨w0, S⟩ w L → ∃ x, v = G x ∧ Turn w0 w S (C x) := fun w hF hS => by
 refine ⟨x, hv, hF.os, hF.tape, hF.output, hF.size, fun b hb hn => hF.block b ?_, ?_⟩
 ·rintro (h | h)
  ·exact absurd h (by show ¬ w0.heap.size ≤ b; omega)
  ·exact hn h
 ·obtain ⟨fp, h1, h2, _⟩ := hS.out
  refine ⟨fp i, hc.out _ _ (h1 i C0 hL), fun b hb => ?_⟩
  obtain ⟨_, a2, a3⟩ := h2 i b hb
  exact ⟨a2, a3.symm⟩
theorem Sat.one {w : World} {S : Nat → Prop} {C : Chunk} (h : C.P S w) (hb : ∀ b, S b → b < w.heap.size) : Sat ⟨w, S⟩ w [C] :=
 ⟨fun i b => i = 0 ∧ S b, fun i c hc => by
  cases i with
  | zero => simp at hc; subst hc; simpa using h
  | succ i => simp at hc, fun i b ⟨hi, hs⟩ => ⟨by simp [hi], hb b hs, .inr hs⟩, fun i j b ⟨hi, _⟩ ⟨hj, _⟩ => by omega⟩
section rules
variable {P : Program} {n : Nat} {cx : Cx} {Q : Jae} {e : Xc} {L : List Chunk} {ops : Array Oper} {F : Xc → List Chunk → Prop} {rest : List Oper} {ss : List Kd}
variable {d : Nat} {ty : TypeId} {pos : String} {af : Array Edge} {g : Option (Nat × Bool)}
theorem c_know {K : Xc → World → Prop} {φ : Prop} (h : ∀ w, Fr cx w → Sat cx w L → φ) (k : φ → At cx K e L) : At cx K e L :=
 ⟨fun w hF hS => (k (h w hF hS)).out w hF hS⟩
theorem Fr.turn {w w' : World} {S : Nat → Prop} {C : Chunk} (hF : Fr cx w) (h : Turn w w' S C) (hS : ∀ b, S b → cx.own b) : Fr cx w' :=
 ⟨h.os.trans hF.os, h.tape.trans hF.tape, h.output.trans hF.output, Nat.le_trans hF.size h.size, fun b hb => by
  have hlt : b < w.heap.size := by
   have : ¬ cx.w0.heap.size ≤ b := fun hh => hb (.inl hh)
   have := hF.size
   omega
  rw [h.block b hlt (fun hs => hb (hS b hs)), hF.block b hb]⟩
theorem Sat.turnNew {w w' : World} {C : Chunk} (hS : Sat cx w L) (hF : Fr cx w) (h : Turn w w' Zk C) : Sat cx w' (L ++ [C]) := by
 obtain ⟨S', h1, h2⟩ := h.out
 exact hS.snoc hF h.grow h1 fun b hb => ⟨((h2 b hb).2.resolve_left (fun x => x)), (h2 b hb).1⟩
theorem Sat.turnAt {w w' : World} {i : Nat} {C0 C : Chunk} (hS : Sat cx w L) (hF : Fr cx w) (hL : L[i]? = some C0)
  (h : ∀ S : Nat → Prop, C0.P S w → (∀ b, S b → b < w.heap.size ∧ cx.own b) → Turn w w' S C) (hs : w.heap.size ≤ w'.heap.size) : Sat cx w' (L.set i C) :=
 hS.set hF hL hs fun S hp hb => by
  have t := h S hp hb
  obtain ⟨S', k1, k2⟩ := t.out
  exact ⟨S', k1, k2, fun b hlt hn => t.block b hlt hn⟩
theorem Sat.at {w : World} {i : Nat} {C : Chunk} (hS : Sat cx w L) (hL : L[i]? = some C) : ∃ S : Nat → Prop, C.P S w ∧ ∀ b, S b → b < w.heap.size ∧ cx.own b := by
 obtain ⟨fp, h1, h2, _⟩ := hS.out
 exact ⟨fp i, h1 i C hL, fun b hb => (h2 i b hb).2⟩
theorem l_runs {o : Oper} {d : Nat} (hw : Xt ops o e = true) (hd : o.dst = some d) (hn : Nat.blt d n = true)
  (h : ∀ w, Fr cx w → Sat cx w L → RunsTo P (ev e) o w fun v w' => WL P n ops Q rest (upd e d v) w') : At cx (WL P n ops Q (o :: rest)) e L :=
 ⟨fun w hF hS => ⟨fun a ha => by
  have hr := h w hF hS
  unfold RunsTo at hr
  unfold wpList
  rw [Jfm ha, hw, if_pos rfl]
  refine .inl ?_
  unfold Oper.wp
  rw [ha.ev]
  generalize (execOp (ev e) o).run P w = r at hr
  cases r with
  | halt x w' => exact hr.elim
  | ok nx w' =>
   cases nx with
   | value v =>
    show wpList P ops (lift n Q) rest (a.put o.dst v) w'
    rw [hd]
    exact hr.out _ (ha.put hn v)
   | skip =>
    show wpList P ops (lift n Q) rest (a.put o.dst undef) w'
    rw [hd]
    exact hr.out _ (ha.put hn undef)
   | enter f args =>
    refine Calls.mono hr ?_
    rintro en w'' ⟨v, rfl, hk⟩
    show wpList P ops (lift n Q) rest (a.put o.dst v) w''
    rw [hd]
    exact hk.out _ (ha.put hn v)
   | _ => exact hr.elim⟩⟩
def Turns (P : Program) (cx : Cx) (e : Xc) (o : Oper) (L : List Chunk) (i : Nat) (rds : List Nat) {σ : Type} (G : σ → Value) (C : σ → Chunk) : Prop :=
 ∀ w L', Fr cx w → Sat cx w L' → L'.length = L.length → (∀ j, j ∈ rds ∨ j = i → L'[j]? = L[j]?) → RunsTo P (ev e) o w fun v w' => ∃ x, v = G x ∧ Fr cx w' ∧ Sat cx w' (L'.set i (C x))
def Jhl (P : Program) (cx : Cx) (e : Xc) (o : Oper) (L : List Chunk) (rds : List Nat) {σ : Type} (G : σ → Value) (C : σ → Chunk) : Prop :=
 ∀ w L', Fr cx w → Sat cx w L' → (∀ j, j ∈ rds → L'[j]? = L[j]?) → RunsTo P (ev e) o w fun v w' => ∃ x, v = G x ∧ Turn w w' Zk (C x)
theorem J7 {σ : Type} {o : Oper} {d i : Nat} {rds : List Nat} {G : σ → Value} {C : σ → Chunk} (h : Turns P cx e o L i rds G C) (hw : Xt ops o e = true) (hd : o.dst = some d) (hn : Nat.blt d n = true)
  (k : ∀ x, At cx (WL P n ops Q rest) (upd e d (G x)) (L.set i (C x))) : At cx (WL P n ops Q (o :: rest)) e L :=
 l_runs hw hd hn fun w hF hS => (h w L hF hS rfl (fun _ _ => rfl)).mono fun v w' ⟨x, hv, hF', hS'⟩ => by
  subst hv
  exact (k x).out w' hF' hS'
theorem Yi {σ : Type} {o : Oper} {d : Nat} {rds : List Nat} {G : σ → Value} {C : σ → Chunk} (h : Jhl P cx e o L rds G C) (hw : Xt ops o e = true) (hd : o.dst = some d) (hn : Nat.blt d n = true)
  (k : ∀ x, At cx (WL P n ops Q rest) (upd e d (G x)) (L ++ [C x])) : At cx (WL P n ops Q (o :: rest)) e L :=
 l_runs hw hd hn fun w hF hS => (h w L hF hS (fun _ _ => rfl)).mono fun v w' ⟨x, hv, ht⟩ => by
  subst hv
  exact (k x).out w' (hF.grow ht.grow) (hS.turnNew hF ht)
def Kd.t (i : Nat) (rds : List Nat) {σ : Type} (G : σ → Value) (Cv : Value → Chunk) : Kd := .g [] rds [i] (fun _ _ v => ∃ x, v = G x) (fun _ _ v => [Cv v])
theorem Jca {σ : Type} {o : Oper} {d i : Nat} {rds : List Nat} {G : σ → Value} {C : σ → Chunk} {Cv : Value → Chunk} (x0 : σ) (h : Turns P cx e o L i rds G C) (hC : ∀ x, Cv (G x) = C x) (hw : Xt ops o e = true) (hd : o.dst = some d)
  (k : ∀ x, Sq P cx ops F rest ss (upd e d (G x)) (L.set i (C x))) : Sq P cx ops F (o :: rest) (.t i rds G Cv :: ss) e L := by
 refine .take hw ⟨G x0, x0, rfl⟩ ⟨fun w L' hF hS hl hi => ?_⟩ fun v' hv' => ?_
 ·refine (h w L' hF hS hl fun j hj => hi j (by simpa [Kd.t, Kd.rds, Kd.wrs] using hj)).mono fun v w' ⟨x, hv, hF', hS'⟩ => ?_
  subst hv
  refine ⟨⟨x, rfl⟩, hF', ?_⟩
  show Sat cx w' (L'.set i (Cv (G x)))
  rw [hC]; exact hS'
 ·obtain ⟨x, rfl⟩ : ∃ x, v' = G x := hv'
  show Sq P cx ops F rest ss (Jdh e o.dst (G x)) (L.set i (Cv (G x)))
  rw [hC, hd]
  exact k x
theorem Jgw {σ : Type} {o : Oper} {d i : Nat} {rds : List Nat} {G : σ → Value} {C : σ → Chunk} {Cv : Value → Chunk} (x0 : σ) (h : Jhl P cx e o L rds G C) (hC : ∀ x, Cv (G x) = C x) (hL : L[i]? = some empC) (hw : Xt ops o e = true) (hd : o.dst = some d)
  (k : ∀ x, Sq P cx ops F rest ss (upd e d (G x)) (L.set i (C x))) : Sq P cx ops F (o :: rest) (.t i rds G Cv :: ss) e L := by
 refine Jca x0 (fun w L' hF hS hl hi => ?_) hC hw hd k
 refine (h w L' hF hS fun j hj => hi j (.inl hj)).mono fun v w' ⟨x, hv, ht⟩ => ⟨x, hv, hF.grow ht.grow, ?_⟩
 exact hS.turnAt hF ((hi i (.inr rfl)).trans hL) (fun S hp _ => by
  obtain ⟨S', k1, k2⟩ := ht.out
  exact ⟨ht.os, ht.tape, ht.output, ht.size, fun b hb _ => ht.block b hb (fun x => x), S', k1, fun b hb => ⟨(k2 b hb).1, .inr ((k2 b hb).2.resolve_left (fun x => x))⟩⟩) ht.size
theorem Qh {σ : Type} {d : Nat} {f : FuncId} {A : Array Operand} {tys : Array TypeId} {args : List Value} {rds : List Nat} {G : σ → Value} {C : σ → Chunk}
  (h : ∀ w L', Fr cx w → Sat cx w L' → (∀ j ∈ rds, L'[j]? = L[j]?) → Does P f args.toArray w fun v w' => ∃ x, v = G x ∧ Turn w w' Zk (C x)) (hc : ∀ args w, (callFunc f args).run P w = .ok (.enter f args) w)
  (ha : A.toList.map (ev e) = args) : Jhl P cx e ⟨some d, .call ⟨.value (.func f), A, tys⟩, ty, pos, af, g⟩ L rds G C := fun w L' hF hS hi => by
 unfold RunsTo
 rw [Jez hc ha]
 exact h w L' hF hS hi
def Ju (E : TypeId) (sz : Nat) (v : Value) (n : Nat) (xs : List (List Value)) : Chunk where
 P S w := (w.ownsRow 0 E sz v n xs.flatten ∧ xs.length = n ∧ ∀ x ∈ xs, x.length = sz) ∧ ∀ b, v.ownBlock = some b → S b
 loc S w w' h := by
  rintro ⟨⟨⟨h1, h2⟩, h3⟩, h4⟩
  refine ⟨⟨⟨h1, ?_⟩, h3⟩, h4⟩
  rcases h2 with h2 | ⟨g, cap, cur, rfl, hb, hh, hr⟩
  ·exact .inl h2
  ·exact .inr ⟨g, cap, cur, rfl, hb, (h g (h4 g rfl)).trans hh, hr⟩
theorem Jf9 {w : World} {E sz n c : Nat} {a : Option Addr} {xs : List (List Value)} (h : w.ownsRow 0 E sz (.slice a n c) n xs.flatten) (hn : xs.length = n) (hl : ∀ x ∈ xs, x.length = sz) : Row w a sz xs := by
 rcases h.2 with ⟨hv, h0⟩ | ⟨g, cap, cur, hv, _, hh, hnc, _, hcs, ht⟩
 ·exact .inl (List.eq_nil_of_length_eq_zero (hn.trans h0))
 ·simp only [Value.slice.injEq] at hv
  obtain ⟨rfl, _, rfl⟩ := hv
  refine .inr ⟨g, 0, rfl, fun i x hx => ⟨hl x (List.mem_of_getElem? hx), fun j v hj => ?_⟩⟩
  have hg := Jc4 xs i x (List.all_eq_true.2 fun y hy => by simpa using hl y hy) hx j v hj
  rw [← ht, List.getElem?_take] at hg
  split at hg
  ·rw [World.cell?, hh]
   simpa using hg
  ·cases hg
theorem Yf {w : World} {i E sz n c : Nat} {a : Option Addr} {xs : List (List Value)} (hS : Sat cx w L) (hL : L[i]? = some (Ju E sz (.slice a n c) n xs)) : Row w a sz xs := by
 obtain ⟨S, ⟨⟨h1, h2, h3⟩, _⟩, _⟩ := hS.at hL
 exact Jf9 h1 h2 h3
theorem lenOf {w : World} {i E sz n : Nat} {v : Value} {xs : List (List Value)} (hS : Sat cx w L) (hL : L[i]? = some (Ju E sz v n xs)) : xs.length = n := by
 obtain ⟨S, ⟨⟨h1, h2, h3⟩, _⟩, _⟩ := hS.at hL
 exact h2
theorem J1 {K : Xc → World → Prop} (E sz : Nat) (k : At cx K e (L ++ [Ju E sz (.slice none 0 0) 0 []])) : At cx K e L :=
 ⟨fun w hF hS => k.out w hF (hS.snoc hF (Grow.refl w) (S := Zk) ⟨⟨World.ownsRow_nil _ _ _ _, rfl, by simp⟩, by simp [Value.ownBlock]⟩ (fun _ h => h.elim))⟩
theorem J4 {K : Xc → World → Prop} (i : Nat) {C C' : Chunk} (hL : L[i]? = some C) (h : Imp C C') (k : At cx K e (L.set i C')) : At cx K e L :=
 ⟨fun w hF hS => k.out w hF (hS.set hF hL (Nat.le_refl _) fun S hp hb => ⟨S, h.out S w hp, fun b hs => ⟨(hb b hs).1, .inl hs⟩, fun _ _ _ => rfl⟩)⟩
theorem Z5 {o : Oper} {d : Nat} {v : Value} {rds : List Nat} (hr : ∀ w L', Fr cx w → Sat cx w L' → (∀ i ∈ rds, L'[i]? = L[i]?) → (execOp (ev e) o).run P w = .ok (.value v) w) (hw : Xt ops o e = true) (hd : o.dst = some d)
  (k : Sq P cx ops F rest ss (upd e d v) L) : Sq P cx ops F (o :: rest) (.d rds v :: ss) e L :=
 d_det hw hd (fun w L' hF hS hi => by unfold RunsTo; rw [hr w L' hF hS hi]; exact ⟨rfl, Grow.refl w⟩) k
theorem Jku {d : Option Nat} {S X : Operand} {t E : TypeId} {I : TypeInfo} {z : Value} {sz by_ : Nat} {w : World} {v : Value} {m : Nat} {xs : List Value} {ad : Addr} {q c : Nat} {news : List Value}
  (ht : P.underlying t = some (.slice E)) (hi : P.info? E = some I) (hz : I.zero = some z) (hsize : I.size = sz) (hby : I.bytes = by_) (hzs : z.cells.size = sz) (hsz : 0 < sz)
  (hs : ev e S = v) (hown : w.ownsRow 0 E sz v m xs) (hx : ev e X = .slice (some ad) q c) (hl : news.length = q * sz) (hnews : ∀ j u, news[j]? = some u → w.cell? (ad.add j) = some u) (h1 : ∀ u ∈ news, u.oneCell' = true)
  (h63 : m + q ≤ maxLen) (hbytes : (m + q) * by_ ≤ 140737488355328) :
  ∃ v' w', (execOp (ev e) ⟨d, .call ⟨.builtin .append, #[S, X], #[t, t]⟩, ty, pos, af, g⟩).run P w = .ok (.value v') w' ∧ w'.ownsRow 0 E sz v' (m + q) (xs ++ news) ∧ w.grownBy w' v.ownBlock ∧ (v'.ownBlock = v.ownBlock ∨ v'.ownBlock = some w.heap.size) := by
 obtain ⟨v', w', hr, h2, h3, h4, h5⟩ := run_append_own_at (P := P) w 0 t ty E I z sz by_ ht hi hz hsize hby hzs hsz v m xs hown ad q c news hl hnews h1 h63 hbytes (Nat.zero_le _)
 refine ⟨v', w', ?_, h2, h3, h5⟩
 simp only [execOp, resolve, invoke, builtin, Sem.run_bind, Sem.run_pure, Result.andThen_ok, List.map_toArray, List.map_cons, List.map_nil, hs, hx, hr]
theorem Jdo {w : World} {E sz n : Nat} {v : Value} {xs : List Value} (h : w.ownsRow 0 E sz v n xs) : ∃ p : Option Addr × Nat, v = .slice p.1 n p.2 := by
 rcases h.2 with ⟨rfl, h0⟩ | ⟨g, cap, cur, rfl, _⟩
 ·subst h0; exact ⟨(none, 0), rfl⟩
 ·exact ⟨(some ⟨g, 0, none⟩, cap), rfl⟩
theorem Jby {w w' : World} {E sz m' : Nat} {v v' : Value} {xs' : List (List Value)} {S : Nat → Prop} (hS : ∀ b, v.ownBlock = some b → S b) (ho : w'.ownsRow 0 E sz v' m' xs'.flatten) (hg : w.grownBy w' v.ownBlock)
  (h5 : v'.ownBlock = v.ownBlock ∨ v'.ownBlock = some w.heap.size) (hn : xs'.length = m') (hl : ∀ x ∈ xs', x.length = sz) : Turn w w' S (Ju E sz v' m' xs') := by
 refine ⟨hg.os, hg.tape, hg.output, hg.size, fun b hb hn => hg.block b hb (fun h => hn (hS b h.symm)), fun b => v'.ownBlock = some b, ⟨⟨ho, hn, hl⟩, fun b h => h⟩, fun b hb => ⟨(ho.lt b hb).2, ?_⟩⟩
 rcases h5 with h | h
 ·exact .inl (hS b (h ▸ hb))
 ·rw [h] at hb; cases hb; exact .inr (Nat.le_refl _)
theorem Sat.turnOf {w w' : World} {i : Nat} {C0 C : Chunk} (hS : Sat cx w L) (hF : Fr cx w) (hL : L[i]? = some C0)
  (h : ∀ S : Nat → Prop, C0.P S w → Turn w w' S C) : Fr cx w' ∧ Sat cx w' (L.set i C) := by
 obtain ⟨S, hp, hb⟩ := hS.at hL
 have t := h S hp
 exact ⟨hF.turn t fun b hs => (hb b hs).2, hS.turnAt hF hL (fun S hp _ => h S hp) t.size⟩
theorem Jgc {sz : Nat} : ∀ (xs : List (List Value)), (∀ x ∈ xs, x.length = sz) → ∀ (j : Nat) (u : Value), xs.flatten[j]? = some u → ∃ i k x, xs[i]? = some x ∧ x[k]? = some u ∧ j = i * sz + k
 | [], _, j, u, h => by simp at h
 | x :: r, hl, j, u, h => by
  have hx := hl x (by simp)
  rw [List.flatten_cons] at h
  rcases Nat.lt_or_ge j x.length with hj | hj
  ·rw [List.getElem?_append_left hj] at h
   exact ⟨0, j, x, by simp, h, by simp⟩
  ·rw [List.getElem?_append_right hj] at h
   obtain ⟨i, k, y, h1, h2, h3⟩ := Jgc r (fun y hy => hl y (by simp [hy])) _ u h
   exact ⟨i + 1, k, y, by simpa using h1, h2, by rw [Nat.succ_mul]; omega⟩
theorem Zd {sz : Nat} : ∀ (xs : List (List Value)), (∀ x ∈ xs, x.length = sz) → xs.flatten.length = xs.length * sz
 | [], _ => by simp
 | x :: r, hl => by
  rw [List.flatten_cons, List.length_append, Zd r (fun y hy => hl y (by simp [hy])), hl x (by simp), List.length_cons, Nat.succ_mul]
  omega
theorem Jh0 {i : Nat} {S X : Operand} {t E : TypeId} {I : TypeInfo} {z : Value} {sz by_ : Nat} {p : Option Addr × Nat} {m m' : Nat} {xs xs' : List (List Value)} {ad : Addr} {q c : Nat} {news : List (List Value)} {rds : List Nat}
  (ht : P.underlying t = some (.slice E)) (hi : P.info? E = some I) (hz : I.zero = some z) (hsize : I.size = sz) (hby : I.bytes = by_) (hzs : z.cells.size = sz) (hsz : Nat.blt 0 sz = true)
  (hL : L[i]? = some (Ju E sz (.slice p.1 m p.2) m xs)) (hs : ev e S = .slice p.1 m p.2) (hx : ev e X = .slice (some ad) q c) (hq : news.length = q) (hnl : ∀ x ∈ news, x.length = sz)
  (hnews : ∀ w L', Fr cx w → Sat cx w L' → (∀ j, j ∈ rds → L'[j]? = L[j]?) → Row w (some ad) sz news) (h1 : ∀ x ∈ news, ∀ u ∈ x, u.oneCell' = true)
  (hxs : xs ++ news = xs') (hm : m + q = m') (h63 : m' ≤ 9223372036854775807) (hbytes : m' * by_ ≤ 140737488355328) :
  Turns P cx e ⟨some d, .call ⟨.builtin .append, #[S, X], #[t, t]⟩, ty, pos, af, g⟩ L i rds (fun p' : Option Addr × Nat => .slice p'.1 m' p'.2) (fun p' => Ju E sz (.slice p'.1 m' p'.2) m' xs') := fun w L' hF hS hl hi' => by
  subst hxs hm
  have hL' := (hi' i (.inr rfl)).trans hL
  obtain ⟨S0, ⟨⟨ho, hlen, hlx⟩, hob⟩, _⟩ := hS.at hL'
  have hsz' : 0 < sz := by simpa using hsz
  have hfl : news.flatten.length = q * sz := by rw [Zd news hnl, hq]
  have hcell : ∀ j u, news.flatten[j]? = some u → w.cell? (ad.add j) = some u := by
   intro j u hj
   obtain ⟨i', k', x, g1, g2, g3⟩ := Jgc news hnl j u hj
   rcases hnews w L' hF hS (fun j hj => hi' j (.inl hj)) with h | ⟨b, off, ha, h⟩
   ·subst h; simp at g1
   ·cases ha
    have := (h i' x g1).2 k' u g2
    rw [Addr.add_lit, g3, ← Nat.add_assoc]
    exact this
  obtain ⟨v', w', hr, h2, h3, h5⟩ := Jku (P := P) (ty := ty) (pos := pos) (af := af) (g := g) (d := some d) ht hi hz hsize hby hzs hsz' hs ho hx hfl hcell (by
   intro u hu
   obtain ⟨x, hx, hux⟩ := List.mem_flatten.1 hu
   exact h1 x hx u hux) (by simp only [maxLen]; omega) hbytes
  obtain ⟨p', rfl⟩ := Jdo h2
  rw [← List.flatten_append] at h2
  obtain ⟨hF', hS'⟩ := hS.turnOf hF hL' (C := Ju E sz (.slice p'.1 (m + q) p'.2) (m + q) (xs ++ news)) fun S1 hp => Jby hp.2 h2 h3 h5 (by simp [hlen, hq]) (by
   intro x hx
   rcases List.mem_append.1 hx with h | h
   ·exact hlx x h
   ·exact hnl x h)
  unfold RunsTo
  rw [hr]
  exact ⟨p', rfl, hF', hS'⟩
theorem rep_flat (l : List Value) : ∀ (n j : Nat), j < n * l.length → (List.replicate n l).flatten[j]? = l[j % l.length]?
 | 0, j, h => by simp at h
 | n + 1, j, h => by
  rw [List.replicate_succ, List.flatten_cons]
  rcases Nat.lt_or_ge j l.length with hj | hj
  ·rw [List.getElem?_append_left hj, Nat.mod_eq_of_lt hj]
  ·rw [List.getElem?_append_right hj, rep_flat l n (j - l.length) (by rw [Nat.succ_mul] at h; omega), ← Nat.mod_eq_sub_mod hj]
theorem made_rep (z : Array Value) (n : Nat) (hz : 0 < z.size) : (madeCells z (n * z.size)).toList = (List.replicate n z.toList).flatten := by
 refine List.ext_getElem? fun j => ?_
 rcases Nat.lt_or_ge j (n * z.size) with hj | hj
 ·have h1 := rep_flat z.toList n j (by simpa using hj)
  rw [h1]
  have hm : j % z.size < z.size := Nat.mod_lt _ hz
  simp [madeCells, hj, hm]
 ·rw [List.getElem?_eq_none (by simpa [madeCells] using hj), List.getElem?_eq_none]
  rw [Zd (sz := z.size) _ (by intro x hx; rw [List.eq_of_mem_replicate hx]; simp)]
  simpa using hj
theorem Jdj {N C : Operand} {t E : TypeId} {I : TypeInfo} {z : Value} {sz by_ : Nat} {m c : Nat} {kl kc : IntKind} {rds : List Nat} {zs : List (List Value)} (ht : P.underlying t = some (.slice E)) (hi : P.info? E = some I) (hz : I.zero = some z) (hsize : I.size = sz) (hby : I.bytes = by_)
  (hzs : z.cells.toList.length = sz) (hsz : Nat.blt 0 sz = true) (hn : ev e N = .int kl (m : Int)) (hc : ev e C = .int kc (c : Int)) (hmc : m = c) (hb : by_ * c ≤ 281474976710656) (h63 : c ≤ 9223372036854775807) (hzz : zs = List.replicate m z.cells.toList) :
  Jhl P cx e ⟨some d, .makeSlice t N C, ty, pos, af, g⟩ L rds (fun p : Option Addr × Nat => .slice p.1 m p.2) (fun p => Ju E sz (.slice p.1 m p.2) m zs) := fun w L' hF hS hi' => by
 subst hsize hby hmc hzz
 obtain ⟨w', hr, ho, hg⟩ := run_make_full (P := P) w 0 t E I z I.size ht hi hz rfl kl kc m hb (by simpa [maxLen] using h63) (Nat.zero_le _)
 have hsz' : 0 < I.size := by simpa using hsz
 have hzz : z.cells.size = I.size := by simpa using hzs
 have ho' : w'.ownsRow 0 E I.size (.slice (some ⟨w.heap.size, 0, none⟩) m m) m (List.replicate m z.cells.toList).flatten := by
  rw [← made_rep z.cells m (by omega), hzz]; exact ho
 unfold RunsTo
 simp only [execOp, hn, hc, hr, Sem.run_bind, Sem.run_pure, Result.andThen_ok]
 refine ⟨(_, _), rfl, hg.os, hg.tape, hg.output, hg.size, fun b hb _ => hg.block b hb (by simp), fun b => b = w.heap.size, ⟨⟨ho', by simp, fun x hx => by rw [List.eq_of_mem_replicate hx]; exact hzs⟩, fun b hb => ?_⟩, fun b hb => ?_⟩
 ·simp [Value.ownBlock] at hb; exact hb.symm
 ·subst hb
  exact ⟨(ho.lt _ rfl).2, .inr (Nat.le_refl _)⟩
def Ya (a : Option Addr) (l m sz : Nat) : Option Addr := if m = l then a else a.map (·.add (l * sz))
theorem Row.cut {w : World} {a : Option Addr} {sz : Nat} {xs : List (List Value)} (h : Row w a sz xs) (l q m : Nat) (hq : l + q ≤ m) : Row w (Ya a l m sz) sz ((xs.drop l).take q) := by
 rcases h with h | ⟨b, off, rfl, h⟩
 ·subst h; exact .inl (by simp)
 ·unfold Ya
  by_cases hm : m = l
  ·have hq0 : q = 0 := by omega
   subst hq0
   exact .inl (by simp)
  ·rw [if_neg hm]
   refine .inr ⟨b, off + l * sz, by simp [Addr.add_lit], fun i x hx => ?_⟩
   rw [List.getElem?_take] at hx
   split at hx
   ·rw [List.getElem?_drop] at hx
    obtain ⟨h1, h2⟩ := h (l + i) x hx
    refine ⟨h1, fun j v hv => ?_⟩
    have := h2 j v hv
    rw [show off + l * sz + i * sz + j = off + (l + i) * sz + j from by rw [Nat.add_mul]; omega]
    exact this
   ·cases hx
theorem Jgk {t u : TypeId} (hu : P.underlying t = some (.slice u)) : P.elem t = u := by simp [Program.elem, hu]
theorem r_sliceL {d : Option Nat} {X A : Operand} {a : Option Addr} {m c : Nat} {t u sz : Nat} {ka : IntKind} {l : Int} (hu : P.underlying t = some (.slice u)) (hs : ∀ w, (sizeOf u).run P w = .ok sz w)
  (hx : ev e X = .slice a m c) (ha : ev e A = .int ka l) (h0 : 0 ≤ l) (h1 : l ≤ m) (w : World) :
  (execOp (ev e) ⟨d, .slice t X (some A) none none, ty, pos, af, g⟩).run P w = .ok (.value (.slice (Ya a l.toNat c sz) (m - l.toNat) (c - l.toNat))) w := by
 have hu' : P.underlying t = some (.slice (P.elem t)) := by rw [Jgk hu]; exact hu
 simp only [execOp, Option.map_some, Option.map_none, hx, ha, Sem.run_bind, run_sliceAt_slice w t _ _ _ _ hu', run_slice_l w t a m c hu' ka l h0 h1, Jgk hu, hs, Result.andThen_ok, Sem.run_pure, sliced, Ya]
theorem r_sliceH {d : Option Nat} {X B : Operand} {a : Option Addr} {m c : Nat} {t u sz : Nat} {kb : IntKind} {h : Int} (hu : P.underlying t = some (.slice u)) (hs : ∀ w, (sizeOf u).run P w = .ok sz w)
  (hx : ev e X = .slice a m c) (hb : ev e B = .int kb h) (h0 : 0 ≤ h) (h2 : h ≤ c) (w : World) :
  (execOp (ev e) ⟨d, .slice t X none (some B) none, ty, pos, af, g⟩).run P w = .ok (.value (.slice (Ya a 0 c sz) h.toNat c)) w := by
 have hu' : P.underlying t = some (.slice (P.elem t)) := by rw [Jgk hu]; exact hu
 simp only [execOp, Option.map_some, Option.map_none, hx, hb, Sem.run_bind, run_sliceAt_slice w t _ _ _ _ hu', run_slice_h w t a m c hu' kb h h0 h2, Jgk hu, hs, Result.andThen_ok, Sem.run_pure, sliced, Ya, Nat.sub_zero]
theorem r_sliceHM {d : Option Nat} {X B M : Operand} {a : Option Addr} {m c : Nat} {t u sz : Nat} {kb km : IntKind} {h q : Int} (hu : P.underlying t = some (.slice u)) (hs : ∀ w, (sizeOf u).run P w = .ok sz w)
  (hx : ev e X = .slice a m c) (hb : ev e B = .int kb h) (hm : ev e M = .int km q) (h0 : 0 ≤ h) (h1 : h ≤ q) (h2 : q ≤ c) (w : World) :
  (execOp (ev e) ⟨d, .slice t X none (some B) (some M), ty, pos, af, g⟩).run P w = .ok (.value (.slice (Ya a 0 q.toNat sz) h.toNat q.toNat)) w := by
 have hu' : P.underlying t = some (.slice (P.elem t)) := by rw [Jgk hu]; exact hu
 simp only [execOp, Option.map_some, Option.map_none, hx, hb, hm, Sem.run_bind, run_sliceAt_slice w t _ _ _ _ hu', run_slice_hm w t a m c hu' kb km h q h0 h1 h2, Jgk hu, hs, Result.andThen_ok, Sem.run_pure, sliced, Ya, Nat.sub_zero]
theorem Wz {α : Type} {f : α → List Value} {ys ls : List α} {i k b : Nat} {S X : Operand} {t E T : TypeId} {I : TypeInfo} {z : Value} {sz by_ : Nat} {p : Option Addr × Nat} {m q : Nat} {cs : List Value} {xs : List (List Value)}
  (ht : P.underlying t = some (.slice E)) (hi : P.info? E = some I) (hz : I.zero = some z) (hsize : I.size = sz) (hby : I.bytes = by_) (hzs : z.cells.size = sz) (hsz : Nat.blt 0 sz = true)
  (hL : L[i]? = some (Ju E sz (.slice p.1 m p.2) m xs)) (hxs : xs = ys.map f) (hm : m = ys.length) (hs : ev e S = .slice p.1 m p.2) (hx : ev e X = .slice (some ⟨b, 0, none⟩) q q) (hk : L[k]? = some (Ji b cs T)) (hcs : (ls.map f).flatten = cs) (hq : (ls.map f).length = q)
  (hnl : ((ls.map f).all fun x => Nat.beq x.length sz) = true) (h1 : ((ls.map f).all fun x => x.all Value.oneCell') = true) (h63 : (ys ++ ls).length * by_ ≤ 140737488355328) (hb0 : Nat.blt 0 by_ = true) :
  Turns P cx e ⟨some d, .call ⟨.builtin .append, #[S, X], #[t, t]⟩, ty, pos, af, g⟩ L i [k] (fun p' : Option Addr × Nat => .slice p'.1 (ys ++ ls).length p'.2) (fun p' => Ju E sz (.slice p'.1 (ys ++ ls).length p'.2) (ys ++ ls).length ((ys ++ ls).map f)) := by
 subst hxs hm
 exact Jh0 ht hi hz hsize hby hzs hsz hL hs hx hq (fun x hx => by simpa using List.all_eq_true.1 hnl x hx) (fun w L' hF hS hj => Vl hS ((hj k (by simp)).trans hk) hcs hnl)
  (fun x hx u hu => List.all_eq_true.1 (List.all_eq_true.1 h1 x hx) u hu) (List.map_append (f := f) (l₁ := ys) (l₂ := ls)).symm (by rw [List.length_append, ← hq, List.length_map]) (by
   have hb : 1 ≤ by_ := by have : 0 < by_ := by simpa using hb0
                           omega
   have : (ys ++ ls).length * 1 ≤ (ys ++ ls).length * by_ := Nat.mul_le_mul_left _ hb
   omega) h63
theorem capOf {w : World} {i E sz n c : Nat} {a : Option Addr} {xs : List (List Value)} (hS : Sat cx w L) (hL : L[i]? = some (Ju E sz (.slice a n c) n xs)) : n ≤ c := by
 obtain ⟨S, ⟨⟨h1, h2, h3⟩, _⟩, _⟩ := hS.at hL
 rcases h1.2 with ⟨hv, h0⟩ | ⟨g, cap, cur, hv, _, hh, hnc, _⟩
 ·simp only [Value.slice.injEq] at hv; omega
 ·simp only [Value.slice.injEq] at hv; omega
theorem Jhy {a : Option Addr} {m c l : Nat} (sz : Nat) {x y : Nat} : (Value.slice (Ya a l m sz) x c).ownBlock = (Value.slice a y c).ownBlock := by
 unfold Ya
 cases a with
 | none => split <;> rfl
 | some a =>
  split
  ·rfl
  ·simp only [Value.ownBlock, Option.map_some, Addr.add]
   split <;> rfl
theorem imp_box {b m sz : Nat} {cs : List Value} {T E : TypeId} {xs : List (List Value)} (hT : T = E) (hcs : xs.flatten = cs) (hl : (xs.all fun x => Nat.beq x.length sz) = true) (hm : xs.length = m ∧ m ≤ 9223372036854775807) :
  Imp (Ji b cs T) (Ju E sz (.slice (some ⟨b, 0, none⟩) m m) m xs) := ⟨fun S w h => by
 subst hT hcs
 have hl' : ∀ x ∈ xs, x.length = sz := fun x hx => by simpa using List.all_eq_true.1 hl x hx
 have hf := Zd xs hl'
 refine ⟨⟨⟨by rw [hf, hm.1], .inr ⟨b, m, _, rfl, Nat.zero_le _, h.2, Nat.le_refl _, by simpa [maxLen] using hm.2, by simp [hf, hm.1], ?_⟩⟩, hm.1, hl'⟩, fun c hc => ?_⟩
 ·rw [List.toList_toArray, List.take_of_length_le (by rw [hf, hm.1]; omega)]
 ·simp [Value.ownBlock] at hc; exact (h.1 c).2 hc.symm⟩
end rules
end Go.Vc

namespace Go.Vc
open Go
section rules
variable {P : Program} {n : Nat} {cx : Cx} {Q : Jae} {e : Xc} {L : List Chunk} {ops : Array Oper} {F : Xc → List Chunk → Prop} {rest : List Oper} {ss : List Kd}
variable {d : Nat} {ty : TypeId} {pos : String} {af : Array Edge} {g : Option (Nat × Bool)}
theorem Jf4 {sz : Nat} : ∀ (xs : List (List Value)) (i : Nat) (x : List Value), (∀ x ∈ xs, x.length = sz) → i < xs.length → (xs.set i x).flatten = xs.flatten.take (i * sz) ++ x ++ xs.flatten.drop ((i + 1) * sz)
 | [], i, x, _, h => by simp at h
 | y :: r, 0, x, hl, _ => by
  have hy := hl y (by simp)
  simp [hy.symm]
 | y :: r, i + 1, x, hl, h => by
  have hy := hl y (by simp)
  have ih := Jf4 r i x (fun z hz => hl z (by simp [hz])) (by simpa using h)
  have e1 : (y ++ r.flatten).take ((i + 1) * sz) = y ++ r.flatten.take (i * sz) := by
   rw [List.take_append, List.take_of_length_le (l := y) (by rw [Nat.succ_mul]; omega), show (i + 1) * sz - y.length = i * sz from by rw [Nat.succ_mul]; omega]
  have e2 : (y ++ r.flatten).drop ((i + 1 + 1) * sz) = r.flatten.drop ((i + 1) * sz) := by
   rw [List.drop_append, List.drop_of_length_le (l := y) (by rw [Nat.succ_mul]; omega), show (i + 1 + 1) * sz - y.length = (i + 1) * sz from by rw [Nat.succ_mul (i + 1)]; omega, List.nil_append]
  rw [List.set_cons_succ, List.flatten_cons, ih, List.flatten_cons, e1, e2]
  simp
theorem Jhm {sz : Nat} (xs : List (List Value)) (i : Nat) (x : List Value) (hl : ∀ x ∈ xs, x.length = sz) (hx : xs[i]? = some x) : x = (xs.flatten.drop (i * sz)).take sz := by
 have hxl := hl x (List.mem_of_getElem? hx)
 refine List.ext_getElem? fun j => ?_
 rcases Nat.lt_or_ge j x.length with hj | hj
 ·have := Jc4 xs i x (List.all_eq_true.2 fun y hy => by simpa using hl y hy) hx j x[j] (by simp [hj])
  rw [List.getElem?_take, if_pos (by omega), List.getElem?_drop, this]
  simp [hj]
 ·rw [List.getElem?_eq_none hj, List.getElem?_take, if_neg (by omega)]
theorem set_cells {sz m i j : Nat} {cur vs : List Value} {xs : List (List Value)} {x x' : List Value} (hl : ∀ x ∈ xs, x.length = sz) (ht : cur.take (m * sz) = xs.flatten) (hm : xs.length = m) (hx : xs[i]? = some x) (hc : m * sz ≤ cur.length)
  (h1 : j + vs.length ≤ x.length) (h2 : x' = x.take j ++ vs ++ x.drop (j + vs.length)) :
  (cur.take (i * sz + j) ++ vs ++ cur.drop (i * sz + j + vs.length)).take (m * sz) = (xs.set i x').flatten := by
 have hi : i < xs.length := by
  rcases Nat.lt_or_ge i xs.length with h | h
  ·exact h
  ·simp [List.getElem?_eq_none h] at hx
 have hxl := hl x (List.mem_of_getElem? hx)
 have hle : (i + 1) * sz ≤ m * sz := Nat.mul_le_mul_right _ (by omega)
 rw [Nat.succ_mul] at hle
 have hfx := Jhm xs i x hl hx
 rw [Jf4 xs i x' hl hi, h2, ← ht]
 rw [← ht] at hfx
 have hTl : (cur.take (m * sz)).length = m * sz := by simp; omega
 generalize hT : cur.take (m * sz) = T at *
 have hcur : cur = T ++ cur.drop (m * sz) := by rw [← hT, List.take_append_drop]
 have hTs : T = T.take (i * sz) ++ (x ++ T.drop ((i + 1) * sz)) := by
  conv => lhs; rw [← List.take_append_drop (i * sz) T]
  rw [hfx]
  congr 1
  rw [Nat.succ_mul, ← List.drop_drop, List.take_append_drop]
 have e1 : cur.take (i * sz + j) = T.take (i * sz) ++ x.take j := by
  rw [hcur, List.take_append_of_le_length (by omega)]
  conv => lhs; rw [hTs]
  rw [List.take_append, List.take_of_length_le (by simp; omega), List.length_take, Nat.min_eq_left (by omega), Nat.add_sub_cancel_left, List.take_append_of_le_length (by omega)]
 have e2 : cur.drop (i * sz + j + vs.length) = x.drop (j + vs.length) ++ (T.drop ((i + 1) * sz) ++ cur.drop (m * sz)) := by
  conv => lhs; rw [hcur, List.drop_append_of_le_length (by omega), hTs]
  rw [List.drop_append, List.drop_of_length_le (l := T.take (i * sz)) (by simp; omega), List.length_take, Nat.min_eq_left (by omega), Nat.add_assoc, Nat.add_sub_cancel_left, List.nil_append, List.drop_append_of_le_length (by omega)]
  simp
 rw [e1, e2]
 have e3 : T.take (i * sz) ++ List.take j x ++ vs ++ (List.drop (j + vs.length) x ++ (List.drop ((i + 1) * sz) T ++ List.drop (m * sz) cur)) = (T.take (i * sz) ++ (x.take j ++ vs ++ x.drop (j + vs.length)) ++ T.drop ((i + 1) * sz)) ++ cur.drop (m * sz) := by simp
 rw [e3, List.take_append_of_le_length, List.take_of_length_le]
 ·simp only [List.length_append, List.length_take, List.length_drop]; rw [Nat.succ_mul]; omega
 ·simp only [List.length_append, List.length_take, List.length_drop]; rw [Nat.succ_mul]; omega
theorem Jks {T i j sz szT k m c : Nat} {A X : Operand} {x : Value} {a : Option Addr} {y y' vs : List Value} {xs : List (List Value)} {E : TypeId} {w : World} (hs : ∀ w, (sizeOf T).run P w = .ok szT w) (hp : ev e A = Yb a k) (hk : k = i * sz + j) (hx : ev e X = x) (hc : x.cells.toList = vs) (hsz : vs.length = szT)
  (hpos : Nat.blt 0 szT = true) (hone : vs.all Value.oneCell' = true) (hy : xs[i]? = some y) (hv : wr y j vs = some y') (ho : w.ownsRow 0 E sz (.slice a m c) m xs.flatten) (hm : xs.length = m) (hl : ∀ x ∈ xs, x.length = sz) :
  ∃ w', (execOp (ev e) ⟨none, .store T A X, ty, pos, af, g⟩).run P w = .ok .skip w' ∧ w'.ownsRow 0 E sz (.slice a m c) m (xs.set i y').flatten ∧ w.grownBy w' (Value.slice a m c).ownBlock := by
 have hpos' : 0 < vs.length := by rw [hsz]; simpa using hpos
 obtain ⟨h1, h2⟩ := wr_eq hv hpos'
 have hi : i < xs.length := by
  rcases Nat.lt_or_ge i xs.length with h | h
  ·exact h
  ·simp [List.getElem?_eq_none h] at hy
 rcases ho.2 with ⟨_, h0⟩ | ⟨g0, cap, cur, hv0, hb0, hh, hnc, hcm, hcs, htk⟩
 ·omega
 ·simp only [Value.slice.injEq] at hv0
  obtain ⟨rfl, _, rfl⟩ := hv0
  have hyl := hl y (List.mem_of_getElem? hy)
  have hcap : m * sz ≤ c * sz := Nat.mul_le_mul_right _ hnc
  have hle : (i + 1) * sz ≤ m * sz := Nat.mul_le_mul_right _ (by omega)
  rw [Nat.succ_mul] at hle
  have hst := run_storeCells_at P g0 k E vs 0 cur w hh (by rw [hk]; omega) (by simpa using hone)
  have hsz' : x.cells.size = szT := by rw [← hsz, ← hc]; simp
  have hp' : ev e A = .pointer (some ⟨g0, k, none⟩) := by rw [hp]; simp [Yb]
  simp only [Nat.add_zero] at hst
  refine ⟨w.setRow g0 (cur.toList.take k ++ vs ++ cur.toList.drop (k + vs.length)).toArray, by
   simp only [execOp, Instr.storeAt, Instr.sureAddr, storeVar, hp', hx, Sem.run_bind, Sem.run_pure, Result.andThen_ok, hs, hsz', ne_eq, not_true_eq_false, if_false, hc, hst], ⟨?_, .inr ⟨g0, c, _, rfl, hb0, setRow_heap w g0 cur _ E _ hh, hnc, hcm, ?_, ?_⟩⟩, ⟨rfl, rfl, rfl, by simp, fun b _ hb => setRow_other w g0 b _ (fun e => hb (by simp [Value.ownBlock, e]))⟩⟩
  ·rw [Zd (sz := sz) _ (by
    intro z hz
    rcases List.mem_or_eq_of_mem_set hz with h | h
    ·exact hl z h
    ·subst h; rw [h2]; simp only [List.length_append, List.length_take, List.length_drop]; omega)]
   simp [hm]
  ·simp only [List.size_toArray, List.length_append, List.length_take, List.length_drop, Array.length_toList, hcs]
   rw [hk]; omega
  ·rw [List.toList_toArray, hk]
   exact set_cells hl htk hm hy (by simpa [hcs] using hcap) h1 h2
theorem l_storeR {q T i j sz szT k m c : Nat} {A X : Operand} {x : Value} {a : Option Addr} {y y' vs : List Value} {xs xs' : List (List Value)} {E : TypeId} (hs : ∀ w, (sizeOf T).run P w = .ok szT w)
  (hw : Xt ops ⟨none, .store T A X, ty, pos, af, g⟩ e = true) (hp : ev e A = Yb a k) (hk : k = i * sz + j) (hx : ev e X = x) (hc : x.cells.toList = vs) (hsz : vs.length = szT)
  (hpos : Nat.blt 0 szT = true) (hone : vs.all Value.oneCell' = true) (hL : L[q]? = some (Ju E sz (.slice a m c) m xs)) (hy : xs[i]? = some y) (hv : wr y j vs = some y') (hxs : xs.set i y' = xs')
  (k' : At cx (WL P n ops Q rest) e (L.set q (Ju E sz (.slice a m c) m xs'))) : At cx (WL P n ops Q (⟨none, .store T A X, ty, pos, af, g⟩ :: rest)) e L :=
 l_acts hw rfl fun w hF hS => by
  obtain ⟨S0, ⟨⟨ho, hlen, hlx⟩, hob⟩, _⟩ := hS.at hL
  obtain ⟨w', hr, h2, h3⟩ := Jks (P := P) (ty := ty) (pos := pos) (af := af) (g := g) hs hp hk hx hc hsz hpos hone hy hv ho hlen hlx
  subst hxs
  have hpos' : 0 < vs.length := by rw [hsz]; simpa using hpos
  obtain ⟨g1, g2⟩ := wr_eq hv hpos'
  obtain ⟨hF', hS'⟩ := hS.turnOf hF hL (C := Ju E sz (.slice a m c) m (xs.set i y')) fun S1 hp => Jby hp.2 h2 h3 (.inl rfl) (by simp [hlen]) (by
   intro z hz
   rcases List.mem_or_eq_of_mem_set hz with h | h
   ·exact hlx z h
   ·subst h; rw [g2]; have := hlx y (List.mem_of_getElem? hy); simp only [List.length_append, List.length_take, List.length_drop]; omega)
  exact ⟨w', hr, k'.out w' hF' hS'⟩
theorem Qn {T : TypeId} {I : TypeInfo} (h : ∀ w, (typeInfo T).run P w = .ok I w) : P.info? T = some I := by
 have := h default
 unfold typeInfo at this
 cases hi : P.info? T with
 | none => simp [hi] at this
 | some J => simp [hi] at this; rw [this]
theorem r_indexPA {d : Option Nat} {t u len sz b o : Nat} {X I : Operand} {k : IntKind} {i : Int} (hu : ∀ w, (underlying t).run P w = .ok (.array len u) w) (hs : ∀ w, (sizeOf u).run P w = .ok sz w)
  (hx : ev e X = .pointer (some ⟨b, o, none⟩)) (hi : ev e I = .int k i) (h0 : 0 ≤ i) (h1 : i < len) (w : World) :
  (execOp (ev e) ⟨d, .indexAddr t X I, ty, pos, af, g⟩).run P w = .ok (.value (.pointer (some ⟨b, o + i.toNat * sz, none⟩))) w := by
 simp [execOp, Instr.indexAt, Instr.sureAddr, hx, hi, asIntOf, hu, h0, h1, hs, Addr.add_lit]
abbrev str (s : List UInt8) : Value := .string ⟨s.toArray⟩
theorem Jj4 (s : List UInt8) : (ByteArray.mk s.toArray).toList = s := by rw [ByteArray.toList_eq]
theorem Q8 {d : Option Nat} {X : Operand} {s : List UInt8} {t : TypeId} (hu : P.underlying t = some .string) (hx : ev e X = str s) (w : World) :
  (execOp (ev e) ⟨d, .call ⟨.builtin .len, #[X], #[t]⟩, ty, pos, af, g⟩).run P w = .ok (.value (.int .i64 s.length)) w := by
 rw [r_lenS hu hx]; rfl
theorem r_concat {d : Option Nat} {t t' : TypeId} {X Y : Operand} {a b : List UInt8} (hx : ev e X = str a) (hy : ev e Y = str b) (hl : a.length + b.length ≤ 9223372036854775807) (w : World) :
  (execOp (ev e) ⟨d, .binOp .add t X Y t', ty, pos, af, g⟩).run P w = .ok (.value (str (a ++ b))) w := by
 have h := run_string_add_sum (P := P) w (ByteArray.mk a.toArray) (ByteArray.mk b.toArray) (by simpa [ByteArray.size] using hl)
 simp [execOp, hx, hy, eqGuard, binOp_string_add, h, ByteArray.mk_append_mk]
theorem Ud {d : Option Nat} {t t' : TypeId} {X Y : Operand} {a b : List UInt8} (hx : ev e X = str a) (hy : ev e Y = str b) (w : World) :
  (execOp (ev e) ⟨d, .binOp .eql t X Y t', ty, pos, af, g⟩).run P w = .ok (.value (.bool (decide (a = b)))) w := by
 have : (a == b) = decide (a = b) := by rw [Bool.eq_iff_iff]; simp
 simp [execOp, hx, hy, eqGuard, binOp_string_eql, this]
theorem Jfc {d : Option Nat} {t t' : TypeId} {X Y : Operand} {a b : List UInt8} (hx : ev e X = str a) (hy : ev e Y = str b) (w : World) :
  (execOp (ev e) ⟨d, .binOp .neq t X Y t', ty, pos, af, g⟩).run P w = .ok (.value (.bool (decide (a ≠ b)))) w := by
 have : (a == b) = decide (a = b) := by rw [Bool.eq_iff_iff]; simp
 simp [execOp, hx, hy, eqGuard, binOp_string_neq, this]
theorem r_indexT {d : Option Nat} {t : TypeId} {X I : Operand} {s : List UInt8} {k : IntKind} {i : Int} (hu : P.underlying t = some .string) (hx : ev e X = str s) (hi : ev e I = .int k i) (h0 : 0 ≤ i) (h1 : i < s.length) (w : World) :
  (execOp (ev e) ⟨d, .index t X I, ty, pos, af, g⟩).run P w = .ok (.value (.int .u8 ((s.getD i.toNat 0).toNat : Nat))) w := by
 have hlt : i.toNat < s.length := by omega
 have h : (0 ≤ i ∧ i < ((ByteArray.mk s.toArray).size : Nat)) := ⟨h0, by simpa [ByteArray.size] using h1⟩
 simp only [execOp, hx, hi, Sem.run_bind, run_index_string w t _ k i hu, dif_pos h, Result.andThen_ok, Sem.run_pure]
 have : (ByteArray.mk s.toArray)[i.toNat]'(by simpa [ByteArray.size] using hlt) = s.getD i.toNat 0 := by
  rw [List.getD_eq_getElem?_getD, List.getElem?_eq_getElem hlt]; rfl
 rw [this]
theorem Jfn (s : List UInt8) (a b : Nat) : (ByteArray.mk s.toArray).extract a b = ByteArray.mk ((s.drop a).take (b - a)).toArray := ByteArray.extract_mk s a b
theorem r_cutT {d : Option Nat} {t : TypeId} {X A B : Operand} {s : List UInt8} {ka kb : IntKind} {l h : Int} (hu : P.underlying t = some .string) (hx : ev e X = str s) (ha : ev e A = .int ka l) (hb : ev e B = .int kb h) (h0 : 0 ≤ l) (h1 : l ≤ h) (h2 : h ≤ s.length) (w : World) :
  (execOp (ev e) ⟨d, .slice t X (some A) (some B) none, ty, pos, af, g⟩).run P w = .ok (.value (str ((s.drop l.toNat).take (h.toNat - l.toNat)))) w := by
 have h' := run_slice_string (P := P) w t (ByteArray.mk s.toArray) ka kb l h hu h0 h1 (by simpa [ByteArray.size] using h2)
 simp only [execOp, Option.map_some, Option.map_none, hx, ha, hb, Sem.run_bind, run_sliceAt_string w t _ _ _ _ hu, h', Result.andThen_ok, Sem.run_pure, Jfn]
theorem r_cutTo {d : Option Nat} {t : TypeId} {X B : Operand} {s : List UInt8} {kb : IntKind} {h : Int} (hu : P.underlying t = some .string) (hx : ev e X = str s) (hb : ev e B = .int kb h) (h0 : 0 ≤ h) (h2 : h ≤ s.length) (w : World) :
  (execOp (ev e) ⟨d, .slice t X none (some B) none, ty, pos, af, g⟩).run P w = .ok (.value (str (s.take h.toNat))) w := by
 have h' := run_slice_string_to_if (P := P) w t (ByteArray.mk s.toArray) kb h hu
 rw [if_pos ⟨h0, by simpa [ByteArray.size] using h2⟩] at h'
 simp only [execOp, Option.map_some, Option.map_none, hx, hb, Sem.run_bind, run_sliceAt_string w t _ _ _ _ hu, h', Result.andThen_ok, Sem.run_pure, Jfn, List.drop_zero, Nat.sub_zero]
theorem r_cutFrom {d : Option Nat} {t : TypeId} {X A : Operand} {s : List UInt8} {ka : IntKind} {l : Int} (hu : P.underlying t = some .string) (hx : ev e X = str s) (ha : ev e A = .int ka l) (h0 : 0 ≤ l) (h2 : l ≤ s.length) (w : World) :
  (execOp (ev e) ⟨d, .slice t X (some A) none none, ty, pos, af, g⟩).run P w = .ok (.value (str (s.drop l.toNat))) w := by
 have h' := run_slice_string_from_if (P := P) w t (ByteArray.mk s.toArray) ka l hu
 rw [if_pos ⟨h0, by simpa [ByteArray.size] using h2⟩] at h'
 have hs : (ByteArray.mk s.toArray).size = s.length := by simp [ByteArray.size]
 simp only [execOp, Option.map_some, Option.map_none, hx, ha, Sem.run_bind, run_sliceAt_string w t _ _ _ _ hu, h', Result.andThen_ok, Sem.run_pure, Jfn, hs]
 rw [List.take_of_length_le (by simp)]
end rules
end Go.Vc

namespace Go.Lx
open Go Go.Vc Go.Md
abbrev Js := Nat → Option Obj
def Know (h : Js) (w : World) (S : Nat → Prop) : Prop := ∀ b o, h b = some o → w.heap[b]? = some o ∧ ¬ S b
theorem Know.now {h : Js} {w0 w : World} {S : Nat → Prop} (k : Know h w0 S) (hF : Fr ⟨w0, S⟩ w) (b : Nat) (o : Obj) (hb : h b = some o) : w.heap[b]? = some o := by
 obtain ⟨h1, h2⟩ := k b o hb
 have hlt : b < w0.heap.size := by
  rcases Nat.lt_or_ge b w0.heap.size with h | h
  ·exact h
  ·rw [Array.getElem?_eq_none h] at h1; cases h1
 have hn : ¬ (Cx.own ⟨w0, S⟩ b) := by
  rintro (h | h)
  ·exact absurd h (by show ¬ w0.heap.size ≤ b; omega)
  ·exact h2 h
 rw [hF.block b hn]
 exact h1
def RowH (h : Js) (a : Option Addr) (sz : Nat) (xs : List (List Value)) : Prop :=
 xs = [] ∨ ∃ b off cs T m, a = some ⟨b, off, none⟩ ∧ h b = some (.cells cs T m) ∧ ∀ (i : Nat) (x : List Value), xs[i]? = some x → x.length = sz ∧ ∀ (j : Nat) (v : Value), x[j]? = some v → cs[off + i * sz + j]? = some v
theorem RowH.row {h : Js} {w : World} {a : Option Addr} {sz : Nat} {xs : List (List Value)} (r : RowH h a sz xs) (k : ∀ b o, h b = some o → w.heap[b]? = some o) : Row w a sz xs := by
 rcases r with r | ⟨b, off, cs, T, m, ha, hb, r⟩
 ·exact .inl r
 ·refine .inr ⟨b, off, ha, fun i x hx => ⟨(r i x hx).1, fun j v hv => ?_⟩⟩
  have := (r i x hx).2 j v hv
  simp [World.cell?, k b _ hb, this]
structure FrS (h : Js) (sz : Nat) (v : Value) (xs : List (List Value)) : Prop where
 out : ∃ a c, v = .slice a xs.length c ∧ xs.length ≤ c ∧ c ≤ 9223372036854775807 ∧ RowH h a sz xs
def sa : Value → Option Addr | .slice a _ _ => a | _ => none
def sc : Value → Nat | .slice _ _ c => c | _ => 0
theorem FrS.eq {h : Js} {sz : Nat} {v : Value} {xs : List (List Value)} (f : FrS h sz v xs) : v = .slice (sa v) xs.length (sc v) := by
 obtain ⟨a, c, rfl, _⟩ := f.out; rfl
theorem FrS.len {h : Js} {sz : Nat} {v : Value} {xs : List (List Value)} (f : FrS h sz v xs) : xs.length ≤ sc v ∧ sc v ≤ 9223372036854775807 := by
 obtain ⟨a, c, rfl, h1, h2, _⟩ := f.out; exact ⟨h1, h2⟩
theorem FrS.row {h : Js} {sz : Nat} {v : Value} {xs : List (List Value)} (f : FrS h sz v xs) {w : World} (k : ∀ b o, h b = some o → w.heap[b]? = some o) : Row w (sa v) sz xs := by
 obtain ⟨a, c, rfl, _, _, r⟩ := f.out; exact r.row k
theorem FrS.nil (h : Js) (sz : Nat) : FrS h sz (.slice none 0 0) [] := ⟨none, 0, rfl, by simp, by simp, .inl rfl⟩
theorem RowH.cut {h : Js} {a : Option Addr} {sz : Nat} {xs : List (List Value)} (r : RowH h a sz xs) (l q m : Nat) (hq : l + q ≤ m) : RowH h (Ya a l m sz) sz ((xs.drop l).take q) := by
 rcases r with r | ⟨b, off, cs, T, m', rfl, hb, r⟩
 ·subst r; exact .inl (by simp)
 ·unfold Ya
  by_cases hm : m = l
  ·have hq0 : q = 0 := by omega
   subst hq0
   exact .inl (by simp)
  ·rw [if_neg hm]
   refine .inr ⟨b, off + l * sz, cs, T, m', by simp [Addr.add_lit], hb, fun i x hx => ?_⟩
   rw [List.getElem?_take] at hx
   split at hx
   ·rw [List.getElem?_drop] at hx
    obtain ⟨h1, h2⟩ := r (l + i) x hx
    refine ⟨h1, fun j v hv => ?_⟩
    have := h2 j v hv
    rw [show off + l * sz + i * sz + j = off + (l + i) * sz + j from by rw [Nat.add_mul]; omega]
    exact this
   ·cases hx
def cutV (sz : Nat) (v : Value) (l h : Int) : Value := .slice (Ya (sa v) l.toNat (sc v) sz) (h.toNat - l.toNat) (sc v - l.toNat)
theorem FrS.cut {α : Type} {h : Js} {sz : Nat} {v : Value} {f : α → List Value} {xs ys : List α} {l q : Int} (s : FrS h sz v (xs.map f)) (e : Yw xs l q = some ys) : FrS h sz (cutV sz v l q) (ys.map f) := by
 obtain ⟨a, c, rfl, h1, h2, r⟩ := s.out
 obtain ⟨g0, g1, g2, rfl⟩ := Zg e
 have hl : ((xs.drop l.toNat).take (q.toNat - l.toNat)).length = q.toNat - l.toNat := by
  rw [List.length_take, List.length_drop]; omega
 simp only [List.length_map] at h1
 refine ⟨⟨Ya a l.toNat c sz, c - l.toNat, ?_, ?_, by omega, ?_⟩⟩
 ·simp only [cutV, sa, sc, List.length_map, hl]
 ·rw [List.length_map, hl]; omega
 ·rw [List.map_take, List.map_drop]
  exact r.cut _ _ _ (by omega)
theorem FrS.mono {h h' : Js} {sz : Nat} {v : Value} {xs : List (List Value)} (s : FrS h sz v xs) (le : ∀ b o, h b = some o → h' b = some o) : FrS h' sz v xs := by
 obtain ⟨a, c, rfl, h1, h2, r⟩ := s.out
 refine ⟨a, c, rfl, h1, h2, ?_⟩
 rcases r with r | ⟨b, off, cs, T, m, ha, hb, r⟩
 ·exact .inl r
 ·exact .inr ⟨b, off, cs, T, m, ha, le b _ hb, r⟩
section ops
variable {P : Program} {e : Xc} {d : Option Nat} {ty : TypeId} {pos : String} {af : Array Edge} {g : Option (Nat × Bool)}
section bin
variable {X Y : Operand} {x y z : Int} {t t' : TypeId} {kd k2 : IntKind}
theorem J8 (hx : ev e X = .int .i64 x) (hy : ev e Y = .int .i64 y) (h : gI (x + y) = some z) (w : World) :
  (execOp (ev e) ⟨d, .binOp .add t X Y t', ty, pos, af, g⟩).run P w = .ok (.value (.int .i64 z)) w := by
 obtain ⟨rfl, hb⟩ := Jem h; exact r_add hx hy hb w
theorem Zb (hx : ev e X = .int .i64 x) (hy : ev e Y = .int .i64 y) (h : gI (x - y) = some z) (w : World) :
  (execOp (ev e) ⟨d, .binOp .sub t X Y t', ty, pos, af, g⟩).run P w = .ok (.value (.int .i64 z)) w := by
 obtain ⟨rfl, hb⟩ := Jem h; exact r_sub hx hy hb w
theorem Jct (hx : ev e X = .int .i64 x) (hy : ev e Y = .int .i64 y) (h : gI (x * y) = some z) (w : World) :
  (execOp (ev e) ⟨d, .binOp .mul t X Y t', ty, pos, af, g⟩).run P w = .ok (.value (.int .i64 z)) w := by
 obtain ⟨rfl, hb⟩ := Jem h; exact r_mul hx hy hb w
theorem r_quoG (hx : ev e X = .int .i64 x) (hy : ev e Y = .int .i64 y) (h : gQuo x y = some z) (w : World) :
  (execOp (ev e) ⟨d, .binOp .quo t X Y t', ty, pos, af, g⟩).run P w = .ok (.value (.int .i64 z)) w := by
 obtain ⟨h0, rfl, hb⟩ := gQuo_some h
 exact Je4 hx hy (fun w => by simp [binOp, Op.intDiv, h0, IntWalk.i64_in _ hb]) w
theorem r_remG (hx : ev e X = .int kd x) (hy : ev e Y = .int kd y) (h : gRem x y = some z) (w : World) :
  (execOp (ev e) ⟨d, .binOp .rem t X Y t', ty, pos, af, g⟩).run P w = .ok (.value (.int kd z)) w := by
 obtain ⟨h0, rfl⟩ := gRem_some h; exact r_rem hx hy h0 w
end bin
theorem Jbs {X : Operand} {t u sz : TypeId} {h : Js} {v : Value} {xs : List (List Value)} {α : Type} {ys : List α} {f : α → List Value} (hu : P.underlying t = some (.slice u)) (hx : ev e X = v) (hs : FrS h sz v xs) (hxs : xs = ys.map f) (w : World) :
  (execOp (ev e) ⟨d, .call ⟨.builtin .len, #[X], #[t]⟩, ty, pos, af, g⟩).run P w = .ok (.value (.int .i64 ys.length)) w := by
 have := U6 (P := P) (d := d) (ty := ty) (pos := pos) (af := af) (g := g) hu (hx.trans hs.eq) w
 rw [this, hxs, List.length_map]
theorem Yz {X I : Operand} {t u sz : Nat} {h : Js} {v : Value} {α : Type} {f : α → List Value} {xs : List α} {x : α} {k : IntKind} {i : Int} (hu : P.underlying t = some (.slice u)) (hs : ∀ w, (sizeOf u).run P w = .ok sz w)
  (hx : ev e X = v) (hi : ev e I = .int k i) (hf : FrS h sz v (xs.map f)) (hg : Vh xs i = some x) (w : World) :
  (execOp (ev e) ⟨d, .indexAddr t X I, ty, pos, af, g⟩).run P w = .ok (.value (Yb (sa v) (i.toNat * sz))) w := by
 obtain ⟨h0, h1, h2⟩ := Z9 hg
 obtain ⟨a, c, rfl, _, _, r⟩ := hf.out
 have ha : ∃ b off, a = some ⟨b, off, none⟩ := by
  rcases r with r | ⟨b, off, cs, T, m, ha, _⟩
  ·simp at r; subst r; simp at h1
  ·exact ⟨b, off, ha⟩
 exact r_index hu hs hx hi ha h0 (by rw [List.length_map]; omega) w
theorem Jg3 {h : Js} {sz : Nat} {v : Value} {α : Type} {f : α → List Value} {xs : List α} {x : α} {i : Int} (hf : FrS h sz v (xs.map f)) (hg : Vh xs i = some x) : ∃ b off, sa v = some ⟨b, off, none⟩ := by
 obtain ⟨h0, h1, h2⟩ := Z9 hg
 obtain ⟨a, c, rfl, _, _, r⟩ := hf.out
 rcases r with r | ⟨b, off, cs, T, m, ha, _⟩
 ·simp at r; subst r; simp at h1
 ·exact ⟨b, off, ha⟩
theorem map_at {α : Type} {f : α → List Value} {xs : List α} {x : α} {i : Int} (hg : Vh xs i = some x) : (xs.map f)[i.toNat]? = some (f x) := by
 obtain ⟨h0, h1, h2⟩ := Z9 hg
 rw [List.getElem?_map, h2]; rfl
theorem Xu {X I : Operand} {a : Option Addr} {m c : Nat} {t u sz sz' : Nat} {k : IntKind} {i : Int} {α : Type} {f : α → List Value} {xs : List α} {x : α} {w : World} (hu : P.underlying t = some (.slice u)) (hs : ∀ w, (sizeOf u).run P w = .ok sz w)
  (hx : ev e X = .slice a m c) (hi : ev e I = .int k i) (hR : Row w a sz' (xs.map f)) (hm : m = xs.length) (hg : Vh xs i = some x) :
  (execOp (ev e) ⟨d, .indexAddr t X I, ty, pos, af, g⟩).run P w = .ok (.value (Yb a (i.toNat * sz))) w := by
 obtain ⟨h0, h1, h2⟩ := Z9 hg
 exact r_index hu hs hx hi (hR.some (i := i.toNat) (by simpa using h1)) h0 (by omega) w
theorem Xv {T k : Nat} {a : Option Addr} {A : Operand} {sz j : Nat} {α : Type} {f : α → List Value} {xs : List α} {x : α} {i : Int} {v : Value} {w : World} (hA : ∀ w, (isAgg T).run P w = .ok false w)
  (hp : ev e A = Yb a k) (hk : k = i.toNat * sz + j) (hr : Row w a sz (xs.map f)) (hg : Vh xs i = some x) (hv : rg (f x) j = some v) :
  (execOp (ev e) ⟨d, .load T A, ty, pos, af, g⟩).run P w = .ok (.value v) w :=
 run_loadP1 (i := i.toNat) (j := j) hA hp hk hr (map_at hg) hv
theorem Wu {T k m : Nat} {a : Option Addr} {A : Operand} {sz j : Nat} {α : Type} {f : α → List Value} {xs : List α} {x : α} {i : Int} {vs : List Value} {w : World} (hA : ∀ w, (isAgg T).run P w = .ok true w) (hs : ∀ w, (sizeOf T).run P w = .ok m w)
  (hp : ev e A = Yb a k) (hk : k = i.toNat * sz + j) (hr : Row w a sz (xs.map f)) (hg : Vh xs i = some x) (hv : rd (f x) j m = some vs) :
  (execOp (ev e) ⟨d, .load T A, ty, pos, af, g⟩).run P w = .ok (.value (.agg vs.toArray)) w :=
 run_loadPN (i := i.toNat) (j := j) hA hs hp hk hr (map_at hg) hv
theorem Jb1 {t t' : TypeId} {X Y : Operand} {a b c : List UInt8} (hx : ev e X = str a) (hy : ev e Y = str b) (h : Jcm a b = some c) (w : World) :
  (execOp (ev e) ⟨d, .binOp .add t X Y t', ty, pos, af, g⟩).run P w = .ok (.value (str c)) w := by
 obtain ⟨rfl, hl⟩ := gCat_some h; exact r_concat hx hy hl w
theorem Zz {t : TypeId} {X I : Operand} {s : List UInt8} {k : IntKind} {i c : Int} (hu : P.underlying t = some .string) (hx : ev e X = str s) (hi : ev e I = .int k i) (h : Zp s i = some c) (w : World) :
  (execOp (ev e) ⟨d, .index t X I, ty, pos, af, g⟩).run P w = .ok (.value (.int .u8 c)) w := by
 obtain ⟨h0, h1, rfl⟩ := gOct_some h; exact r_indexT hu hx hi h0 h1 w
theorem r_cutTG {t : TypeId} {X A B : Operand} {s u : List UInt8} {ka kb : IntKind} {l h : Int} (hu : P.underlying t = some .string) (hx : ev e X = str s) (ha : ev e A = .int ka l) (hb : ev e B = .int kb h) (hg : Yw s l h = some u) (w : World) :
  (execOp (ev e) ⟨d, .slice t X (some A) (some B) none, ty, pos, af, g⟩).run P w = .ok (.value (str u)) w := by
 obtain ⟨h0, h1, h2, rfl⟩ := Zg hg; exact r_cutT hu hx ha hb h0 h1 h2 w
theorem Jbg {t : TypeId} {X B : Operand} {s u : List UInt8} {kb : IntKind} {h : Int} (hu : P.underlying t = some .string) (hx : ev e X = str s) (hb : ev e B = .int kb h) (hg : Yw s 0 h = some u) (w : World) :
  (execOp (ev e) ⟨d, .slice t X none (some B) none, ty, pos, af, g⟩).run P w = .ok (.value (str u)) w := by
 obtain ⟨h0, h1, h2, rfl⟩ := Zg hg
 have := r_cutTo (P := P) (d := d) (ty := ty) (pos := pos) (af := af) (g := g) hu hx hb h1 h2 w
 simpa using this
theorem Wy {t : TypeId} {X A : Operand} {s u : List UInt8} {ka : IntKind} {l : Int} (hu : P.underlying t = some .string) (hx : ev e X = str s) (ha : ev e A = .int ka l) (hg : Yw s l s.length = some u) (w : World) :
  (execOp (ev e) ⟨d, .slice t X (some A) none none, ty, pos, af, g⟩).run P w = .ok (.value (str u)) w := by
 obtain ⟨h0, h1, h2, rfl⟩ := Zg hg
 have := r_cutFrom (P := P) (d := d) (ty := ty) (pos := pos) (af := af) (g := g) hu hx ha h0 h1 w
 rw [this, List.take_of_length_le (by simp)]
end ops
section rules
variable {P : Program} {n : Nat} {cx : Cx} {Q : Jae} {e : Xc} {L : List Chunk} {ops : Array Oper} {F : Xc → List Chunk → Prop} {rest : List Oper} {ss : List Kd}
structure RoundA {σ τ : Type} (cx : Cx) (st : σ → τ → List (Nat × Value)) (hp : σ → τ → List Chunk) (I : σ → τ → Nat → Prop) (m : Nat) (e : Xc) (w : World) : Prop where
 out : ∃ s t k, Jhs e (st s t) ∧ Fr cx w ∧ Sat cx w (hp s t) ∧ I s t k ∧ k < m
theorem Yq {σ τ ρ : Type} {c : Code} {r : ρ} (B : (σ → Option ρ) → σ → Option ρ) (st : σ → τ → List (Nat × Value)) (hp : σ → τ → List Chunk) (G : σ → τ → Prop) (s0 : σ) (t0 : τ) (sel : List Nat)
  (H : Z8 B s0 = some r) (hG : G s0 t0) (hst : Jhs e (st s0 t0)) (hnd : sel.Nodup) (hL : sel.map (fun i => L[i]?) = (hp s0 t0).map some)
  (round : ∀ (s : σ) (t : τ) (m : Nat) (g : Xc), B (it B m) s = some r → G s t →
   At cx (WC P n c (ThenQ (RoundA cx st hp (fun s t k => it B k s = some r ∧ G s t) (m + 1)) Q)) (mkE (st s t) g) (hp s t)) :
  At cx (WC P n (.loop c) Q) e L :=
 ⟨fun w hF hS => ⟨fun a ha => by
  obtain ⟨m0, hm0⟩ := Jin H
  refine wp_loop_ghost (fun m a' w' => ∃ e' s t, Sim n a' e' ∧ Jhs e' (st s t) ∧ Fr cx w' ∧ Sat cx w' (hp s t) ∧ it B m s = some r ∧ G s t) m0 ⟨e, s0, t0, ha, hst, hF, hS.select sel hnd hL, hm0, hG⟩ ?_
  rintro m a w ⟨e', s, t, ha, hst, hF, hS, hI, hg⟩
  cases m with
  | zero => cases hI
  | succ m =>
   have hr := ((round s t m e' hI hg).out w hF hS).out a (by rw [Jj7 e' _ hst]; exact ha)
   refine wp_mono hr ?_
   rintro x a' w' ⟨e'', hs', hq⟩
   cases x with
   | normal =>
    obtain ⟨s', t', m', h1, h3, h4, ⟨h5, h7⟩, h6⟩ := hq.out
    exact ⟨m', h6, e'', s', t', hs', h1, h3, h4, h5, h7⟩
   | exit i => exact ⟨e'', hs', hq⟩
   | goto i => exact ⟨e'', hs', hq⟩
   | ret => exact ⟨e'', hs', hq⟩
   | panic i => exact ⟨e'', hs', hq⟩
   | outgrown => exact ⟨e'', hs', hq⟩⟩⟩
theorem Ja0 {σ τ : Type} {st : σ → τ → List (Nat × Value)} {hp : σ → τ → List Chunk} {I : σ → τ → Nat → Prop} {m : Nat} (s : σ) (t : τ) (k : Nat) (sel : List Nat) (hst : Jhs e (st s t)) (hnd : sel.Nodup) (hL : sel.map (fun i => L[i]?) = (hp s t).map some) (hI : I s t k) (hm : k < m) :
  At cx (RoundA cx st hp I m) e L :=
 ⟨fun _ hF hS => ⟨s, t, k, hst, hF, hS.select sel hnd hL, hI, hm⟩⟩
theorem Qm {σ τ ρ : Type} {x y : Code} {r : ρ} (J : σ → Option ρ) (st : σ → τ → List (Nat × Value)) (hp : σ → τ → List Chunk) (G : σ → τ → Prop)
  (h1 : At cx (WC P n x (ThenQ (RoundA cx st hp (fun s t _ => J s = some r ∧ G s t) 1) Q)) e L)
  (h2 : ∀ (s : σ) (t : τ) (g : Xc), J s = some r → G s t → At cx (WC P n y Q) (mkE (st s t) g) (hp s t)) : At cx (WC P n (.seq x y) Q) e L :=
 Jc ⟨fun w hF hS => ⟨fun a ha => Code.wp_mono (fun x' a' w' hq => by
  obtain ⟨e', hs, hq⟩ := hq
  cases x' with
  | normal =>
   obtain ⟨s, t, m, g1, g3, g4, ⟨g5, g7⟩, _⟩ := hq.out
   exact ⟨e', hs, by
    have := (h2 s t e' g5 g7).out w' g3 g4
    rwa [Jj7 e' _ g1] at this⟩
  | exit i => exact ⟨e', hs, hq⟩
  | goto i => exact ⟨e', hs, hq⟩
  | ret => exact ⟨e', hs, hq⟩
  | panic i => exact ⟨e', hs, hq⟩
  | outgrown => exact ⟨e', hs, hq⟩) ((h1.out w hF hS).out a ha)⟩⟩
theorem Jm (w : World) : Know (fun b => w.heap[b]?) w Zk := fun b o h => ⟨h, fun x => x⟩
theorem Xw {α : Type} {w : World} {i E sz n : Nat} {p : Option Addr × Nat} {xs : List α} {f : α → List Value} (hn : n = xs.length) (hS : Sat cx w L) (hL : L[i]? = some (Ju E sz (.slice p.1 n p.2) n (xs.map f))) : FrS (fun b => w.heap[b]?) sz (.slice p.1 n p.2) (xs.map f) := by
 subst hn
 obtain ⟨S, ⟨⟨h1, h2, h3⟩, _⟩, _⟩ := hS.at hL
 have hr := Jf9 h1 h2 h3
 rcases h1.2 with ⟨hv, h0⟩ | ⟨g, cap, cur, hv, _, hh, hnc, hm, hcs, ht⟩
 ·simp only [Value.slice.injEq] at hv
  have hxs : xs = [] := List.eq_nil_of_length_eq_zero h0
  subst hxs
  refine ⟨⟨p.1, p.2, by simp, by simp, by omega, .inl (by simp)⟩⟩
 ·simp only [Value.slice.injEq] at hv
  obtain ⟨hp, _, hc⟩ := hv
  refine ⟨⟨p.1, p.2, by simp, by rw [List.length_map, hc]; exact hnc, by rw [hc]; simpa [maxLen] using hm, ?_⟩⟩
  rcases hr with hr | ⟨b, off, ha, hr⟩
  ·exact .inl hr
  ·rw [hp] at ha
   simp only [Option.some.injEq, Addr.mk.injEq] at ha
   obtain ⟨rfl, rfl, _⟩ := ha
   refine .inr ⟨g, 0, cur, E, _, hp, hh, fun i x hx => ⟨(hr i x hx).1, fun j v hv => ?_⟩⟩
   have := (hr i x hx).2 j v hv
   simpa [World.cell?, hh] using this
theorem frs_box {α : Type} {w : World} {i b m T sz : Nat} {cs : List Value} {xs : List α} {f : α → List Value} (hS : Sat cx w L) (hL : L[i]? = some (Ji b cs T)) (hcs : (xs.map f).flatten = cs) (hl : ((xs.map f).all fun x => Nat.beq x.length sz) = true) (hm : xs.length = m) (hm' : Nat.ble m 9223372036854775807 = true) :
  FrS (fun b => w.heap[b]?) sz (.slice (some ⟨b, 0, none⟩) m m) (xs.map f) := by
 subst hm
 refine ⟨⟨some ⟨b, 0, none⟩, xs.length, by simp, by simp, by simpa using hm', .inr ⟨b, 0, cs.toArray, T, (0, 0), rfl, Xf hS hL, fun i x hx => ⟨?_, fun j v hv => ?_⟩⟩⟩⟩
 ·have := List.all_eq_true.1 hl x (List.mem_of_getElem? hx)
  simpa using this
 ·have := Jc4 _ i x hl hx j v hv
  rw [hcs] at this
  simpa using this
end rules
end Go.Lx
