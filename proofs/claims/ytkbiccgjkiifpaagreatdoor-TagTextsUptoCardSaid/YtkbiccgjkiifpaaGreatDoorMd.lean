/- Models: partial functions in plain Lean that stand for Go functions, the guards of single operations, and one way to loop and to recur. Conditions: none. -/
import GoSem.Step
import Derived.Shelf.Strings.Builder1
import Derived.Shelf.Strings.Builder2
import Derived.Shelf.Strings.OnBuilder
import Derived.Shelf.Small.Utf8
import Derived.Shelf.Small.Bits
import Derived.Shelf.Small.Strs
import Derived.Shelf.Strings.BuilderF
import Derived.Shelf.Strconv.Atoi
import Derived.Shelf.Strconv.Itoa0
import Derived.Shelf.Strconv.Itoa1
import Derived.Shelf.LaysM
import Derived.Shelf.Strconv.Itoa2
import Derived.Shelf.Strconv.Itoa3
import Derived.Shelf.Strings.Search1
import Derived.Shelf.Strings.Search2
import Derived.Shelf.Strings.Search3
import Derived.Shelf.Strings.Cut
import Derived.Shelf.Strings.Count
import Derived.Shelf.Strings.Shaped
import Derived.Shelf.Strings.Prefix
import Derived.Shelf.Strings.Runes
import Derived.Shelf.Strings.AsciiSet
import Derived.Shelf.Bits.Mul64
import Derived.Shelf.Strings.Repeat
import Derived.Shelf.Unicode.DecodeSlow
import Derived.Ground.SlgcProg
import Derived.Shelf.SlicesG.Cmp
import Derived.Test.YtkbiccgjkiifpaaGreatDoorProg
import Derived.Orders
import Derived.Tactics
import Derived.Below
import Derived.KernelRfl
import Derived.Laws.Cells
import Derived.Laws.CopyRow
import Derived.Laws.Externs
import Derived.IntWalk
import Derived.Deep.LoopGhost
import Derived.LoopN
import Derived.Laws.StructEq
import Derived.Maps.AppendAt
import Derived.Laws.OwnMore
import Derived.Laws.Slices
import Derived.Laws.Strings3
import Derived.Laws.Concat
set_option linter.unusedVariables false
namespace Go.Md
def Js {α β : Type} (m : Option α) (k : α → Option β) : Option β :=
 match m with
 | some a => k a
 | none => none
theorem Je {α β : Type} {m : Option α} {k : α → Option β} {r : β} (h : Js m k = some r) : ∃ a, m = some a ∧ k a = some r := by
 cases m with
 | none => cases h
 | some a => exact ⟨a, rfl, h⟩
@[simp] theorem Jb {α β : Type} (a : α) (k : α → Option β) : Js (some a) k = k a := rfl
@[simp] theorem bnd_none {α β : Type} (k : α → Option β) : Js none k = none := rfl
def val {α : Type} [Inhabited α] (m : Option α) : α := m.getD default
theorem J4 {α β : Type} [Inhabited α] {m : Option α} {k : α → Option β} {r : β} (h : Js m k = some r) : m = some (val m) := by
 cases m with
 | none => cases h
 | some a => rfl
theorem J0 {α β : Type} [Inhabited α] {m : Option α} {k : α → Option β} {r : β} (h : Js m k = some r) : k (val m) = some r := by
 cases m with
 | none => cases h
 | some a => exact h
def J2 {α : Type} (b : Bool) (x y : Option α) : Option α := match b with | true => x | false => y
theorem Xn {α : Type} {b : Bool} {x y : Option α} {r : Option α} (hb : b = true) (h : J2 b x y = r) : x = r := by subst hb; exact h
theorem Xg {α : Type} {b : Bool} {x y : Option α} {r : Option α} (hb : b = false) (h : J2 b x y = r) : y = r := by subst hb; exact h
@[simp] theorem Qh {α : Type} (x y : Option α) : J2 true x y = x := rfl
@[simp] theorem Jy {α : Type} (x y : Option α) : J2 false x y = y := rfl
theorem Qn {α : Type} (p : Prop) [Decidable p] (x y : Option α) : J2 (decide p) x y = if p then x else y := by
 by_cases h : p <;> simp [h]
def it {α ρ : Type} (F : (α → Option ρ) → α → Option ρ) : Nat → α → Option ρ
 | 0, _ => none
 | n + 1, a => F (it F n) a
open Classical in
noncomputable def Yz {α ρ : Type} (F : (α → Option ρ) → α → Option ρ) (a : α) : Option ρ :=
 if h : ∃ r k, ∀ n, k ≤ n → it F n a = some r then some (Classical.choose h) else none
theorem Jfz {α ρ : Type} {F : (α → Option ρ) → α → Option ρ} {a : α} {r : ρ} (h : Yz F a = some r) : ∃ n, it F n a = some r := by
 unfold Yz at h
 split at h
 ·rename_i hh
  cases h
  obtain ⟨k, hk⟩ := Classical.choose_spec hh
  exact ⟨k, hk k (Nat.le_refl _)⟩
 ·cases h
theorem Jfp {α ρ : Type} {F : (α → Option ρ) → α → Option ρ} {a : α} {o : Option ρ} {k : Nat} (h : ∀ n, k ≤ n → it F n a = o) : Yz F a = o := by
 unfold Yz
 cases o with
 | some r =>
  have hh : ∃ r k, ∀ n, k ≤ n → it F n a = some r := ⟨r, k, h⟩
  rw [dif_pos hh]
  obtain ⟨k', hk'⟩ := Classical.choose_spec hh
  have h1 := hk' (max k k') (Nat.le_max_right _ _)
  rw [h _ (Nat.le_max_left _ _)] at h1
  exact h1.symm
 | none =>
  rw [dif_neg]
  rintro ⟨r, k', hk'⟩
  have h1 := hk' (max k k') (Nat.le_max_right _ _)
  rw [h _ (Nat.le_max_left _ _)] at h1
  cases h1
theorem fix_of {α ρ : Type} {F : (α → Option ρ) → α → Option ρ} (spec : α → Option ρ) (I : α → Prop) (μ : α → Nat)
  (step : ∀ (next : α → Option ρ) (a : α), I a → (∀ b, I b → μ b < μ a → next b = spec b) → F next a = spec a) (a : α) (ha : I a) : Yz F a = spec a := by
 have key : ∀ (n : Nat) (a : α), I a → μ a < n → it F n a = spec a := by
  intro n
  induction n with
  | zero => intro a _ h; omega
  | succ n ih => intro a ha h; exact step _ a ha fun b hb hlt => ih b hb (by omega)
 exact Jfp (k := μ a + 1) fun n hn => key n a ha (by omega)
theorem it_ev {α ρ : Type} {F : (α → Option ρ) → α → Option ρ} {a b : α} (h : ∀ next, F next a = next b) : Yz F a = Yz F b := by
 by_cases hb : ∃ r k, ∀ n, k ≤ n → it F n b = some r
 ·obtain ⟨r, k, hk⟩ := hb
  rw [Jfp (o := some r) (k := k) hk, Jfp (o := some r) (k := k + 1)]
  intro n hn
  cases n with
  | zero => omega
  | succ n => show F (it F n) a = some r; rw [h]; exact hk n (by omega)
 ·have ha : ¬ ∃ r k, ∀ n, k ≤ n → it F n a = some r := by
   rintro ⟨r, k, hk⟩
   exact hb ⟨r, k, fun n hn => by have := hk (n + 1) (by omega); rw [show it F (n + 1) a = F (it F n) a from rfl, h] at this; exact this⟩
  unfold Yz
  rw [dif_neg hb, dif_neg ha]
theorem X2 {α ρ : Type} {F : (α → Option ρ) → α → Option ρ} {a : α} (b : α) (h : ∀ next, F next a = next b) : Yz F a = Yz F b := it_ev h
theorem Ql {α ρ : Type} {F : (α → Option ρ) → α → Option ρ} {a : α} {o : Option ρ} (h : ∀ next, F next a = o) : Yz F a = o :=
 Jfp (k := 1) fun n hn => by
  cases n with
  | zero => omega
  | succ n => exact h _
theorem fix_congr {α ρ : Type} {F G : (α → Option ρ) → α → Option ρ} (h : ∀ next a, F next a = G next a) : Yz F = Yz G := by
 have : F = G := by funext next a; exact h next a
 rw [this]
def gI (x : Int) : Option Int := if -9223372036854775808 ≤ x ∧ x ≤ 9223372036854775807 then some x else none
theorem Jd7 {x y : Int} (h : gI x = some y) : y = x ∧ -9223372036854775808 ≤ x ∧ x ≤ 9223372036854775807 := by
 unfold gI at h; split at h
 ·cases h; exact ⟨rfl, ‹_›⟩
 ·cases h
theorem J7 {x : Int} (h : -9223372036854775808 ≤ x ∧ x ≤ 9223372036854775807) : gI x = some x := if_pos h
def gQuo (x y : Int) : Option Int := if y = 0 then none else gI (x.tdiv y)
theorem gQuo_some {x y z : Int} (h : gQuo x y = some z) : y ≠ 0 ∧ z = x.tdiv y ∧ -9223372036854775808 ≤ x.tdiv y ∧ x.tdiv y ≤ 9223372036854775807 := by
 unfold gQuo at h; split at h
 ·cases h
 ·exact ⟨‹_›, Jd7 h⟩
def gRem (x y : Int) : Option Int := if y = 0 then none else some (x.tmod y)
theorem gRem_some {x y z : Int} (h : gRem x y = some z) : y ≠ 0 ∧ z = x.tmod y := by
 unfold gRem at h; split at h
 ·cases h
 ·cases h; exact ⟨‹_›, rfl⟩
theorem gRem_ok {x y : Int} (hy : y ≠ 0) : gRem x y = some (x.tmod y) := if_neg hy
def Yv {α : Type} (xs : List α) (i : Int) : Option α := if 0 ≤ i then xs[i.toNat]? else none
theorem Vn {α : Type} {xs : List α} {i : Int} {x : α} (h : Yv xs i = some x) : 0 ≤ i ∧ i.toNat < xs.length ∧ xs[i.toNat]? = some x := by
 unfold Yv at h; split at h
 ·refine ⟨‹_›, ?_, h⟩
  rcases Nat.lt_or_ge i.toNat xs.length with h' | h'
  ·exact h'
  ·rw [List.getElem?_eq_none h'] at h; cases h
 ·cases h
theorem Qs {α : Type} {xs : List α} {k : Nat} (h : k < xs.length) : Yv xs (k : Int) = some xs[k] := by
 unfold Yv; rw [if_pos (by omega), Int.toNat_natCast, List.getElem?_eq_getElem h]
theorem gAt_ok {α : Type} {xs : List α} {i : Int} (h0 : 0 ≤ i) (h : i.toNat < xs.length) : Yv xs i = some xs[i.toNat] := by
 unfold Yv; rw [if_pos h0, List.getElem?_eq_getElem h]
def gSet {α : Type} (xs : List α) (i : Int) (x : α) : Option (List α) := if 0 ≤ i ∧ i.toNat < xs.length then some (xs.set i.toNat x) else none
theorem Je6 {α : Type} {xs ys : List α} {i : Int} {x : α} (h : gSet xs i x = some ys) : 0 ≤ i ∧ i.toNat < xs.length ∧ ys = xs.set i.toNat x := by
 unfold gSet at h; split at h
 ·cases h; exact ⟨‹_ ∧ _›.1, ‹_ ∧ _›.2, rfl⟩
 ·cases h
theorem Jb3 {α : Type} {xs : List α} {i : Int} {x : α} (h0 : 0 ≤ i) (h : i.toNat < xs.length) : gSet xs i x = some (xs.set i.toNat x) := if_pos ⟨h0, h⟩
theorem Jhk {α : Type} {n : Nat} {xs ys : List α} {i : Int} {x : α} (hn : n = xs.length) (h : gSet xs i x = some ys) : n = ys.length := by
 obtain ⟨_, _, rfl⟩ := Je6 h; rw [List.length_set]; exact hn
def Xx {α : Type} (xs : List α) (l h : Int) : Option (List α) := if 0 ≤ l ∧ l ≤ h ∧ h ≤ xs.length then some ((xs.drop l.toNat).take (h.toNat - l.toNat)) else none
theorem Z0 {α : Type} {xs ys : List α} {l h : Int} (e : Xx xs l h = some ys) : 0 ≤ l ∧ l ≤ h ∧ h ≤ xs.length ∧ ys = (xs.drop l.toNat).take (h.toNat - l.toNat) := by
 unfold Xx at e; split at e
 ·cases e; rename_i h; exact ⟨h.1, h.2.1, h.2.2, rfl⟩
 ·cases e
theorem Jht {α : Type} {xs : List α} {l h : Int} (h0 : 0 ≤ l ∧ l ≤ h ∧ h ≤ xs.length) : Xx xs l h = some ((xs.drop l.toNat).take (h.toNat - l.toNat)) := if_pos h0
theorem Jbm {α : Type} {xs : List α} {h : Int} (h0 : 0 ≤ h ∧ h ≤ xs.length) : Xx xs 0 h = some (xs.take h.toNat) := by rw [Jht ⟨by omega, h0⟩]; simp
theorem V6 {α : Type} {xs : List α} {l : Int} (h0 : 0 ≤ l ∧ l ≤ xs.length) : Xx xs l xs.length = some (xs.drop l.toNat) := by
 rw [Jht ⟨h0.1, h0.2, by omega⟩, List.take_of_length_le (by simp)]
def Xy (s : List UInt8) (i : Int) : Option Int := if 0 ≤ i then (s[i.toNat]?).map fun c => (c.toNat : Int) else none
theorem gOct_some {s : List UInt8} {i c : Int} (h : Xy s i = some c) : 0 ≤ i ∧ i < s.length ∧ c = ((s.getD i.toNat 0).toNat : Nat) := by
 unfold Xy at h; split at h
 ·rename_i h0
  rcases Nat.lt_or_ge i.toNat s.length with h' | h'
  ·rw [List.getElem?_eq_getElem h'] at h
   simp only [Option.map_some, Option.some.injEq] at h
   refine ⟨h0, by omega, ?_⟩
   rw [← h, List.getD_eq_getElem?_getD, List.getElem?_eq_getElem h']; rfl
  ·rw [List.getElem?_eq_none h'] at h; cases h
 ·cases h
theorem Jai {s : List UInt8} {k : Nat} (h : k < s.length) : Xy s (k : Int) = some (s[k].toNat : Int) := by
 unfold Xy; rw [if_pos (by omega), Int.toNat_natCast, List.getElem?_eq_getElem h]; rfl
theorem gOct_ok {s : List UInt8} {i : Int} (h0 : 0 ≤ i) (h : i.toNat < s.length) : Xy s i = some (s[i.toNat].toNat : Int) := by
 unfold Xy; rw [if_pos h0, List.getElem?_eq_getElem h]; rfl
def Xh (a b : List UInt8) : Option (List UInt8) := if a.length + b.length ≤ 9223372036854775807 then some (a ++ b) else none
theorem gCat_some {a b c : List UInt8} (h : Xh a b = some c) : c = a ++ b ∧ a.length + b.length ≤ 9223372036854775807 := by
 unfold Xh at h; split at h
 ·cases h; exact ⟨rfl, ‹_›⟩
 ·cases h
theorem Xb {a b : List UInt8} (h : a.length + b.length ≤ 9223372036854775807) : Xh a b = some (a ++ b) := if_pos h
def Wz {α : Type} (by_ : Nat) (xs ys : List α) : Option (List α) := if xs.length + ys.length ≤ 140737488355328 ∧ (xs.length + ys.length) * by_ ≤ 140737488355328 then some (xs ++ ys) else none
theorem Jch {α : Type} {by_ : Nat} {xs ys zs : List α} (h : Wz by_ xs ys = some zs) : zs = xs ++ ys ∧ xs.length + ys.length ≤ 140737488355328 ∧ (xs.length + ys.length) * by_ ≤ 140737488355328 := by
 unfold Wz at h; split at h
 ·cases h; exact ⟨rfl, ‹_›⟩
 ·cases h
theorem Yk {α : Type} {by_ : Nat} {xs ys : List α} (h : xs.length + ys.length ≤ 140737488355328 ∧ (xs.length + ys.length) * by_ ≤ 140737488355328) : Wz by_ xs ys = some (xs ++ ys) := if_pos h
def gApL {α : Type} (by_ : Nat) (xs ys : List α) : Option (List α) := if xs.length + ys.length ≤ 140739635838976 ∧ (xs.length + ys.length) * by_ ≤ 140739635838976 then some (xs ++ ys) else none
theorem gApL_some {α : Type} {by_ : Nat} {xs ys zs : List α} (h : gApL by_ xs ys = some zs) : zs = xs ++ ys ∧ xs.length + ys.length ≤ 140739635838976 ∧ (xs.length + ys.length) * by_ ≤ 140739635838976 := by
 unfold gApL at h; split at h
 ·cases h; exact ⟨rfl, ‹_›⟩
 ·cases h
theorem gApL_ok {α : Type} {by_ : Nat} {xs ys : List α} (h : xs.length + ys.length ≤ 140739635838976 ∧ (xs.length + ys.length) * by_ ≤ 140739635838976) : gApL by_ xs ys = some (xs ++ ys) := if_pos h
def Xa (s : List UInt8) : List Int := s.map fun c => (c.toNat : Int)
def Jaz (xs : List Int) : List UInt8 := xs.map fun x => UInt8.ofNat x.toNat
def gMake {α : Type} (by_ : Nat) (n : Int) (z : α) : Option (List α) := if 0 ≤ n ∧ n ≤ 140737488355328 ∧ by_ * n.toNat ≤ 140737488355328 then some (List.replicate n.toNat z) else none
theorem gMake_some {α : Type} {by_ : Nat} {n : Int} {z : α} {zs : List α} (h : gMake by_ n z = some zs) : 0 ≤ n ∧ n ≤ 140737488355328 ∧ by_ * n.toNat ≤ 140737488355328 ∧ zs = List.replicate n.toNat z := by
 unfold gMake at h; split at h
 ·cases h; rename_i h; exact ⟨h.1, h.2.1, h.2.2, rfl⟩
 ·cases h
theorem Jju {α : Type} {by_ : Nat} {n : Int} {z : α} (h : 0 ≤ n ∧ n ≤ 140737488355328 ∧ by_ * n.toNat ≤ 140737488355328) : gMake by_ n z = some (List.replicate n.toNat z) := if_pos h
def wU8 (x : Int) : Int := x % 256
def wI32 (x : Int) : Int := if 2147483648 ≤ x % 4294967296 then x % 4294967296 - 4294967296 else x % 4294967296
def wI64 (x : Int) : Int := if 9223372036854775808 ≤ x % 18446744073709551616 then x % 18446744073709551616 - 18446744073709551616 else x % 18446744073709551616
theorem wU8_in {x : Int} (h : 0 ≤ x ∧ x ≤ 255) : wU8 x = x := by unfold wU8; omega
def gK (lo hi x : Int) : Option Int := if lo ≤ x ∧ x ≤ hi then some x else none
theorem gK_some {lo hi x y : Int} (h : gK lo hi x = some y) : y = x ∧ lo ≤ x ∧ x ≤ hi := by
 unfold gK at h; split at h
 ·cases h; exact ⟨rfl, ‹_›⟩
 ·cases h
def gShl (x y : Int) : Option Int := if 0 ≤ y ∧ y < 64 then gI (x * 2 ^ y.toNat) else none
theorem gShl_some {x y z : Int} (h : gShl x y = some z) : 0 ≤ y ∧ y < 64 ∧ z = x * 2 ^ y.toNat ∧ -9223372036854775808 ≤ x * 2 ^ y.toNat ∧ x * 2 ^ y.toNat ≤ 9223372036854775807 := by
 unfold gShl at h; split at h
 ·rename_i h0; obtain ⟨h1, h2⟩ := Jd7 h; exact ⟨h0.1, h0.2, h1, h2⟩
 ·cases h
def gShr (bits : Nat) (x y : Int) : Option Int := if 0 ≤ y then some (x / 2 ^ min y.toNat bits) else none
def bAnd (bits : Nat) (x y : Int) : Int := ((BitVec.ofInt bits x &&& BitVec.ofInt bits y).toNat : Int)
def bOr (bits : Nat) (x y : Int) : Int := ((BitVec.ofInt bits x ||| BitVec.ofInt bits y).toNat : Int)
def gIx (n : Nat) (i : Int) : Option Nat := if 0 ≤ i ∧ i < n then some i.toNat else none
theorem gIx_some {n k : Nat} {i : Int} (h : gIx n i = some k) : 0 ≤ i ∧ i < n ∧ k = i.toNat := by
 unfold gIx at h; split at h
 ·cases h; rename_i h; exact ⟨h.1, h.2, rfl⟩
 ·cases h
theorem gIx_lt {n k : Nat} {i : Int} (h : gIx n i = some k) : k < n := by
 obtain ⟨h0, h1, rfl⟩ := gIx_some h; omega
theorem gIx_nat {n k : Nat} (h : k < n) : gIx n (k : Int) = some k := by unfold gIx; rw [if_pos (by omega)]; rfl
def setA {α : Type} (v : Nat → α) (i : Nat) (x : α) (j : Nat) : α := if j = i then x else v j
end Go.Md

namespace Go.Md
open Go
end Go.Md

namespace Go.Md
def gNx (s : List UInt8) (k : Nat) : Option Int := match s[k]? with | some c => if c.toNat < 128 then some (c.toNat : Int) else none | none => none
theorem gNx_some {s : List UInt8} {k : Nat} {c : Int} (h : gNx s k = some c) : ∃ hk : k < s.length, (s[k]).toNat < 128 ∧ c = ((s[k]).toNat : Nat) := by
 unfold gNx at h; split at h
 ·rename_i u hu
  obtain ⟨hk, rfl⟩ := List.getElem?_eq_some_iff.1 hu
  split at h
  ·rename_i h2; cases h; exact ⟨hk, h2, rfl⟩
  ·cases h
 ·cases h
end Go.Md

namespace Go.Md
end Go.Md

namespace Go.Md
def gBld (a s : List UInt8) : Option (List UInt8) := if s ≠ [] ∧ a.length + s.length ≤ 140737488355328 then some (a ++ s) else none
theorem gBld_some {a s r : List UInt8} (h : gBld a s = some r) : r = a ++ s ∧ s ≠ [] ∧ a.length + s.length ≤ 140737488355328 := by
 unfold gBld at h; split at h
 ·cases h; rename_i h; exact ⟨rfl, h⟩
 ·cases h
theorem Jf6 {a s : List UInt8} (h : s ≠ [] ∧ a.length + s.length ≤ 140737488355328) : gBld a s = some (a ++ s) := if_pos h
end Go.Md

namespace Go.Md
def ixB : List UInt8 → UInt8 → Int
 | [], _ => -1
 | b :: l, c => if b = c then 0 else if ixB l c = -1 then -1 else ixB l c + 1
def gIxB (s : List UInt8) (c : Int) : Option Int := some (ixB s c.toNat.toUInt8)
def gCnB (s : List UInt8) (c : Int) : Option Int := some (s.count c.toNat.toUInt8 : Nat)
def Jdw (u : Nat) : List UInt8 :=
 if u < 10 then [UInt8.ofNat (48 + u)] else Jdw (u / 10) ++ [UInt8.ofNat (48 + u % 10)]
termination_by u
decreasing_by omega
def Wq (n : Int) : List UInt8 := if n < 0 then 45 :: Jdw n.natAbs else Jdw n.toNat
def Y8 (n : Int) : Option (List UInt8) := if -9223372036854775808 ≤ n ∧ n ≤ 9223372036854775807 then some (Wq n) else none
def digV (b : UInt8) : Option Nat := if 48 ≤ b.toNat ∧ b.toNat ≤ 57 then some (b.toNat - 48) else none
def decF (acc : Nat) : List UInt8 → Option Nat
 | [] => some acc
 | b :: r => match digV b with
  | some d => decF (acc * 10 + d) r
  | none => none
def decN (l : List UInt8) : Option Nat := if l.isEmpty then none else decF 0 l
def atoiL : List UInt8 → Option Int
 | [] => none
 | b :: r =>
  if b == 45 then (decN r).map fun (m : Nat) => -(m : Int)
  else if b == 43 then (decN r).map fun (m : Nat) => (m : Int)
  else (decN (b :: r)).map fun (m : Nat) => (m : Int)
def Jhx (s : List UInt8) : Option Int := if s.length ≤ 18 then atoiL s else none
def gRep (s : List UInt8) (n : Int) : Option (List UInt8) := if 0 ≤ n ∧ n ≤ 9223372036854775807 ∧ s.length * n.toNat ≤ 140737488355328 then some (List.replicate n.toNat s).flatten else none
def Jev (l : List (List UInt8)) (sep : List UInt8) : Option (List UInt8) := if l.length ≤ 140737488355328 ∧ (sep.intercalate l).length ≤ 140737488355328 then some (sep.intercalate l) else none
end Go.Md

namespace Go.Md
end Go.Md

namespace Go.Md
section
variable {κ ν : Type} [DecidableEq κ]
def mGet (xs : List (κ × ν)) (k : κ) : Option ν := (xs.find? fun p => decide (p.1 = k)).map (·.2)
def mHas (xs : List (κ × ν)) (k : κ) : Bool := xs.any fun p => decide (p.1 = k)
def mSet (xs : List (κ × ν)) (k : κ) (v : ν) : List (κ × ν) := if mHas xs k then xs.map (fun p => if p.1 = k then (k, v) else p) else xs ++ [(k, v)]
end
structure Pick {α : Type} (l : List α) (p : α) (l' : List α) : Prop where
 out : ∃ i, l[i]? = some p ∧ l' = l.eraseIdx i
theorem Pick.mem {α : Type} {l l' : List α} {p : α} (h : Pick l p l') : p ∈ l := by
 obtain ⟨i, h1, _⟩ := h.out
 exact List.mem_of_getElem? h1
theorem Pick.len {α : Type} {l l' : List α} {p : α} (h : Pick l p l') : l'.length + 1 = l.length := by
 obtain ⟨i, h1, rfl⟩ := h.out
 have hi : i < l.length := by
  rcases Nat.lt_or_ge i l.length with h | h
  ·exact h
  ·rw [List.getElem?_eq_none h] at h1; cases h1
 rw [List.length_eraseIdx_of_lt hi]; omega
theorem Pick.sub {α : Type} {l l' : List α} {p : α} (h : Pick l p l') : ∀ x ∈ l', x ∈ l := by
 obtain ⟨i, _, rfl⟩ := h.out
 exact fun x hx => List.mem_of_mem_eraseIdx hx
theorem Pick.perm {α : Type} {l l' : List α} {p : α} (h : Pick l p l') : l.Perm (p :: l') := by
 obtain ⟨i, h1, rfl⟩ := h.out
 clear h
 induction l generalizing i with
 | nil => simp at h1
 | cons x l ih =>
  cases i with
  | zero => simp at h1; subst h1; exact List.Perm.refl _
  | succ i =>
   simp at h1
   rw [List.eraseIdx_cons_succ]
   exact (List.Perm.cons x (ih i h1)).trans (List.Perm.swap p x _)
open Classical in
noncomputable def gAll {α ρ : Type} (l : List α) (K : α → List α → Option ρ) : Option ρ :=
 if h : ∃ r, ∀ p l', Pick l p l' → K p l' = some r then some (Classical.choose h) else none
theorem gAll_some {α ρ : Type} {l l' : List α} {K : α → List α → Option ρ} {r : ρ} {p : α} (h : gAll l K = some r) (hp : Pick l p l') : K p l' = some r := by
 unfold gAll at h
 split at h
 ·rename_i hx
  rw [Classical.choose_spec hx p l' hp]; exact h
 ·cases h
theorem gAll_ok {α ρ : Type} {l : List α} {K : α → List α → Option ρ} {r : ρ} (h : ∀ p l', Pick l p l' → K p l' = some r) (hl : l ≠ []) : gAll l K = some r := by
 have hx : ∃ r, ∀ p l', Pick l p l' → K p l' = some r := ⟨r, h⟩
 unfold gAll
 rw [dif_pos hx]
 obtain ⟨p, l', rfl⟩ := List.exists_cons_of_ne_nil hl
 have hp : Pick (p :: l') p l' := ⟨0, by simp, by simp⟩
 rw [← h p l' hp, Classical.choose_spec hx p l' hp]
def gBldB (a : List UInt8) (c : Int) : Option (List UInt8) := if 0 ≤ c ∧ c ≤ 255 ∧ a.length + 1 ≤ 140737488355328 then some (a ++ [UInt8.ofNat c.toNat]) else none
theorem gBldB_some {a r : List UInt8} {c : Int} (h : gBldB a c = some r) : r = a ++ [UInt8.ofNat c.toNat] ∧ 0 ≤ c ∧ c ≤ 255 ∧ a.length + 1 ≤ 140737488355328 := by
 unfold gBldB at h; split at h
 ·cases h; exact ⟨rfl, ‹_›⟩
 ·cases h
theorem gBldB_ok {a : List UInt8} {c : Int} (h : 0 ≤ c ∧ c ≤ 255 ∧ a.length + 1 ≤ 140737488355328) : gBldB a c = some (a ++ [UInt8.ofNat c.toNat]) := if_pos h
theorem ofStr_snoc (a : List UInt8) {c : Int} (h0 : 0 ≤ c) (h1 : c ≤ 255) : Xa (a ++ [UInt8.ofNat c.toNat]) = Xa a ++ [c] := by
 unfold Xa
 rw [List.map_append]
 have : ((UInt8.ofNat c.toNat).toNat : Int) = c := by
  rw [UInt8.toNat_ofNat']; omega
 rw [List.map_cons, List.map_nil, this]
end Go.Md

namespace Go.Md
structure CmpOk {α : Type} (cmp : α → α → Option Int) : Prop where
 tot : ∀ x y, ∃ v, cmp x y = some v
 flip : ∀ x y, (cmp x y).getD 0 < 0 ↔ 0 < (cmp y x).getD 0
 trans : ∀ x y z, (cmp x y).getD 0 ≤ 0 → (cmp y z).getD 0 ≤ 0 → (cmp x z).getD 0 ≤ 0
 anti : ∀ x y, (cmp x y).getD 0 = 0 → x = y
def leC {α : Type} (cmp : α → α → Option Int) (x y : α) : Bool := decide ((cmp x y).getD 0 ≤ 0)
section
variable {α : Type} {cmp : α → α → Option Int}
theorem CmpOk.refl (c : CmpOk cmp) (x : α) : leC cmp x x = true := by
 have := c.flip x x
 unfold leC; simp; omega
end
end Go.Md

namespace Go.Md
end Go.Md

namespace Go.Md
structure CmpPre {α : Type} (cmp : α → α → Option Int) : Prop where
 tot : ∀ x y, ∃ v, cmp x y = some v
 flip : ∀ x y, (cmp x y).getD 0 < 0 ↔ 0 < (cmp y x).getD 0
 trans : ∀ x y z, (cmp x y).getD 0 ≤ 0 → (cmp y z).getD 0 ≤ 0 → (cmp x z).getD 0 ≤ 0
section
variable {α : Type} {cmp : α → α → Option Int}
end
end Go.Md

namespace Go.Md
structure SortOf {α : Type} (cmp : α → α → Option Int) (l d : List α) : Prop where
 perm : d.Perm l
 sorted : d.Pairwise fun x y => leC cmp x y = true
section
variable {α ρ : Type} {cmp : α → α → Option Int} {l : List α} {k : List α → Option ρ} {r : ρ}
end
end Go.Md

namespace Go.M
open Go.Md
noncomputable section
set_option maxRecDepth 100000
structure Tc where
 Num : Int
 Den : Int
instance : Inhabited Tc := ⟨⟨0, 0⟩⟩
mutual
structure Ta where
 Tag : Int
 Value : Tb
structure Tb where
 kad : Int
 kae : (List UInt8)
 kaf : (List Int)
 kac : (List Tc)
 kab : (List Ta)
end
instance : Inhabited Ta := ⟨⟨0, ⟨0, [], [], [], []⟩⟩⟩
instance : Inhabited Tb := ⟨⟨0, [], [], [], []⟩⟩
structure Td where
 Big : Bool
 kag : (List (List Ta))
instance : Inhabited Td := ⟨⟨false, []⟩⟩
structure Te where
 s_ : (List UInt8)
 kaa : Bool
instance : Inhabited Te := ⟨⟨[], false⟩⟩
def Jcj (x y : Tc) : Bool := decide (x.Num = y.Num ∧ x.Den = y.Den)
def Jbb (a0 : Int) (a1 : Int) (a2 : Int) : Option (Bool) :=
 J2 (decide (a0 < a1)) (some true) (some (decide (a2 < a0)))
def Jap (a0 : Int) (x4 : Bool) : Option (Int) :=
 J2 x4 (some 1) (J2 (decide (a0 = 3)) (some 2) (J2 (decide (a0 = 4)) (J2 (decide (a0 = 4)) (some 4) (J2 (decide (a0 = 5)) (some 8) (some 0))) (J2 (decide (a0 = 9)) (some 4) (J2 (decide (a0 = 5)) (some 8) (some 0)))))
def Jb4 (a0 : Int) : Option (Int) :=
 J2 (decide (a0 = 1)) (Jap a0 (decide (a0 = 1))) (J2 (decide (a0 = 2)) (Jap a0 (decide (a0 = 2))) (J2 (decide (a0 = 7)) (Jap a0 (decide (a0 = 7))) (Jap a0 (decide (a0 = 13)))))
def Jfq (a0 : Int) : Option (Bool) :=
 J2 (decide (a0 = 1)) (some true) (J2 (decide (a0 = 3)) (some true) (J2 (decide (a0 = 4)) (some true) (some (decide (a0 = 9)))))
def Jb7 (a0 : Int) : Option (Bool) :=
 J2 (decide (a0 = 2)) (some true) (some (decide (a0 = 7)))
def Wd (a0 : Tb) (x8_3 : Bool) : Option (Int) :=
 J2 x8_3 (J2 x8_3 (some 1) (some 0)) (J2 (decide (a0.kad ≠ 13)) (J2 (decide (0 < (a0.kab.length : Int))) (some 1) (some 0)) (some 0))
def Wf (a0 : Tb) (x8_2 : Bool) : Option (Int) :=
 J2 x8_2 (J2 x8_2 (some 1) (some 0)) (J2 (decide (a0.kad ≠ 5)) (Wd a0 (decide (0 < (a0.kac.length : Int)))) (Wd a0 false))
def Wc (a0 : Tb) (x8 : Bool) : Option (Int) :=
 J2 x8 (J2 x8 (some 1) (some 0)) (Js (Jb7 a0.kad) fun t21 =>
 J2 (!t21) (Wf a0 (decide (a0.kae ≠ []))) (Wf a0 false))
def Wv (a0 : Tb) : Option (Int) :=
 Js (Jb4 a0.kad) fun t6 =>
 J2 (decide (t6 = 0)) (some 10) (Js (Jfq a0.kad) fun t11 =>
 J2 (!t11) (Wc a0 (decide (0 < (a0.kaf.length : Int)))) (Wc a0 false))
def Jf4 (a0 : Int) : Option (Int × Int) :=
 J2 (decide (a0 = 1)) (some (0, 255)) (J2 (decide (a0 = 3)) (some (0, 65535)) (J2 (decide (a0 = 9)) (some ((-2147483648), 2147483647)) (some (0, 4294967295))))
def Y6 (a0 : Tb) (next3 : ((Int) → Option (Int))) (x56_2 : Int) : Option (Int) :=
 J2 (decide (x56_2 < (a0.kae.length : Int))) (Js (Xy a0.kae x56_2) fun t62 =>
 J2 (decide (t62 = 0)) (some 9) (Js (gI (x56_2 + 1)) fun t64 =>
 next3 t64)) (some 0)
def W5 (a0 : Tb) : Option (Int) :=
 J2 (decide (a0.kad = 2)) (Yz (fun next3 s => Y6 a0 next3 s) 0) (some 0)
def Yd (a0 : Tb) (next4 : ((Int) → Option (Int))) (x37_2 : Int) : Option (Int) :=
 J2 (decide (x37_2 < (a0.kac.length : Int))) (Js (Yv a0.kac x37_2) fun t39 =>
 Js (Jbb t39.Num 0 4294967295) fun t43 =>
 J2 t43 (some 2) (Js (Jbb t39.Den 0 4294967295) fun t47 =>
 J2 t47 (some 2) (Js (gI (x37_2 + 1)) fun t49 =>
 next4 t49))) (W5 a0)
def W1 (a0 : Tb) : Option (Int) :=
 Yz (fun next4 s => Yd a0 next4 s) 0
def Yf (a0 : Tb) (t19 : (Int × Int)) (next5 : ((Int) → Option (Int))) (x25_2 : Int) : Option (Int) :=
 J2 (decide (x25_2 < (a0.kaf.length : Int))) (Js (Yv a0.kaf x25_2) fun t27 =>
 Js (Jbb t27 t19.1 t19.2) fun t32 =>
 J2 t32 (some 2) (Js (gI (x25_2 + 1)) fun t33 =>
 next5 t33)) (W1 a0)
def Ja2 (a0 : Tb) : Option (Int) :=
 Js (Wv a0) fun t12 =>
 J2 (decide (t12 ≠ 0)) (some t12) (Js (Jf4 a0.kad) fun t19 =>
 Yz (fun next5 s => Yf a0 t19 next5 s) 0)
def Wx (x17_2 : Int) (next1 : ((Int) → Option (Int))) (x7 : Int) : Option (Int) :=
 J2 (decide (x7 ≠ 0)) (some x7) (Js (gI (x17_2 + 1)) fun t61 =>
 next1 t61)
def Jb1 (a1 : Int) (self : ((List Ta) × Int) → Option (Int)) (x17_2 : Int) (next1 : ((Int) → Option (Int))) (t20 : Ta) : Option (Int) :=
 J2 (decide (t20.Value.kad ≠ 13)) (Js (Ja2 t20.Value) fun t46 =>
 Wx x17_2 next1 t46) (Js (Wv t20.Value) fun t49 =>
 J2 (decide (t49 = 0)) (Js (gI (a1 + 1)) fun t56 =>
 Js (self (t20.Value.kab, t56)) fun t57 =>
 Wx x17_2 next1 t57) (Wx x17_2 next1 t49))
def Jal (a0 : (List Ta)) (a1 : Int) (self : ((List Ta) × Int) → Option (Int)) (next1 : ((Int) → Option (Int))) (x17_2 : Int) : Option (Int) :=
 J2 (decide (x17_2 < (a0.length : Int))) (Js (Yv a0 x17_2) fun t20 =>
 Js (Jbb t20.Tag 0 65535) fun t25 =>
 J2 t25 (some 2) (J2 (decide (0 < x17_2)) (Js (gI (x17_2 - 1)) fun t34 =>
 Js (Yv a0 t34) fun t35 =>
 J2 (decide (t20.Tag ≤ t35.Tag)) (some 5) (Jb1 a1 self x17_2 next1 t20)) (Jb1 a1 self x17_2 next1 t20))) (some 0)
def Y9 (self : ((List Ta) × Int) → Option (Int)) (a0 : (List Ta)) (a1 : Int) : Option (Int) :=
 J2 (decide (5 < a1)) (some 4) (J2 (decide (200 < (a0.length : Int))) (some 4) (Yz (fun next1 s => Jal a0 a1 self next1 s) 0))
def Jcm (a0 : (List Ta)) (a1 : Int) : Option (Int) :=
 Yz (fun (self : ((List Ta) × Int) → Option (Int)) (s : (List Ta) × Int) => Y9 self s.1 s.2) (a0, a1)
def Jer (a0 : Int) : Option (Int) :=
 Js (gRem a0 2) fun t5 =>
 Js (gI (a0 + t5)) fun t6 =>
 some t6
def Jea (a0 : Tb) : Option (Int) :=
 J2 (decide (a0.kad = 2)) (Js (gI ((a0.kae.length : Int) + 1)) fun t10 =>
 some t10) (J2 (decide (a0.kad = 7)) (some (a0.kae.length : Int)) (J2 (decide (a0.kad = 5)) (some (a0.kac.length : Int)) (J2 (decide (a0.kad = 13)) (some 1) (some (a0.kaf.length : Int)))))
def U8 (a0 : Tb) : Option (Int) :=
 Js (Jea a0) fun t4 =>
 Js (Jb4 a0.kad) fun t7 =>
 Js (gI (t4 * t7)) fun t8 =>
 some t8
def Jao (x17_2 : Int) (next1 : ((Int × Int) → Option (Int))) (x1_3 : Int) : Option (Int) :=
 Js (gI (x17_2 + 1)) fun t42 =>
 next1 (x1_3, t42)
def Vz (a0 : (List Ta)) (self : ((List Ta) × Int) → Option (Int)) (next1 : ((Int × Int) → Option (Int))) (x1_2 : Int) (x17_2 : Int) : Option (Int) :=
 J2 (decide (x17_2 < (a0.length : Int))) (Js (Yv a0 x17_2) fun t19 =>
 J2 (decide (t19.Value.kad = 13)) (Js (self (t19.Value.kab, x1_2)) fun t30 =>
 Jao x17_2 next1 t30) (Js (U8 t19.Value) fun t34 =>
 J2 (decide (4 < t34)) (Js (Jer x1_2) fun t37 =>
 Js (U8 t19.Value) fun t40 =>
 Js (gI (t37 + t40)) fun t41 =>
 Jao x17_2 next1 t41) (Jao x17_2 next1 x1_2))) (some x1_2)
def Z4 (self : ((List Ta) × Int) → Option (Int)) (a0 : (List Ta)) (a1 : Int) : Option (Int) :=
 Js (Jer a1) fun t8 =>
 Js (gI (t8 + 2)) fun t9 =>
 Js (gI (12 * (a0.length : Int))) fun t12 =>
 Js (gI (t9 + t12)) fun t13 =>
 Js (gI (t13 + 4)) fun t14 =>
 Yz (fun next1 s => Vz a0 self next1 s.1 s.2) (t14, 0)
def Jfn (a0 : (List Ta)) (a1 : Int) : Option (Int) :=
 Yz (fun (self : ((List Ta) × Int) → Option (Int)) (s : (List Ta) × Int) => Z4 self s.1 s.2) (a0, a1)
def Uw (a0 : Td) (next1 : ((Int × Int) → Option (Int))) (x3_2 : Int) (x9_2 : Int) : Option (Int) :=
 J2 (decide (x9_2 < (a0.kag.length : Int))) (Js (Yv a0.kag x9_2) fun t11 =>
 Js (Jfn t11 x3_2) fun t15 =>
 Js (gI (x9_2 + 1)) fun t16 =>
 next1 (t15, t16)) (some x3_2)
def Jia (a0 : Td) : Option (Int) :=
 Yz (fun next1 s => Uw a0 next1 s.1 s.2) (8, 0)
def Jfw (a0 : Td) : Option (Int) :=
 Js (Jia a0) fun t24 =>
 J2 (decide (65000 < t24)) (some 4) (some 0)
def W2 (a0 : Td) (next2 : ((Int) → Option (Int))) (x13_2 : Int) : Option (Int) :=
 J2 (decide (x13_2 < (a0.kag.length : Int))) (Js (Yv a0.kag x13_2) fun t15 =>
 Js (Jcm t15 1) fun t18 =>
 J2 (decide (t18 ≠ 0)) (some t18) (Js (gI (x13_2 + 1)) fun t22 =>
 next2 t22)) (Jfw a0)
def Jc1 (a0 : Td) : Option (Int) :=
 J2 (decide (20 < (a0.kag.length : Int))) (some 4) (Yz (fun next2 s => W2 a0 next2 s) 0)
def Up (a0 : Tb) : Option (Int) :=
 J2 (decide (a0.kad ≠ 13)) (Js (Ja2 a0) fun t8 =>
 some t8) (Js (Wv a0) fun t10 =>
 J2 (decide (t10 ≠ 0)) (some t10) (Js (Jcm a0.kab 1) fun t16 =>
 some t16))
def Um (a0 : (List Int)) : Option ((List Int)) :=
 Js (Wz 8 ([] : List Int) a0) fun l7 =>
 some l7
def Zx (a0 : (List Tc)) : Option ((List Tc)) :=
 Js (Wz 16 ([] : List Tc) a0) fun l7 =>
 some l7
def Q4 (a0 : (List UInt8)) (a1 : Int) : Option (Int) :=
 Js (gIxB a0 a1) fun t7 =>
 some t7
def Yn (a0 : (List UInt8)) (a1 : (List UInt8)) : Option (Int) :=
 J2 (decide ((a1.length : Int) = 0)) (some 0) (J2 (decide (a1 = a0)) (some 0) (J2 (decide ((a1.length : Int) = 1)) (Js (Xy a1 0) fun t29 =>
 Js (Q4 a0 t29) fun t30 =>
 some t30) (J2 (decide ((a0.length : Int) ≤ (a1.length : Int))) (some (-1)) (none))))
def Uc (a0 : (List UInt8)) (a1 : (List UInt8)) : Option ((List UInt8) × (List UInt8) × Bool) :=
 Js (Yn a0 a1) fun t10 =>
 J2 (decide (0 ≤ t10)) (Js (Xx a0 0 t10) fun t15 =>
 Js (gI (t10 + (a1.length : Int))) fun t20 =>
 Js (Xx a0 t20 a0.length) fun t21 =>
 some (t15, t21, true)) (some (a0, [], false))
def Ym (a0 : (List UInt8)) (a1 : (List UInt8)) : Option ((List UInt8) × (List UInt8) × Bool) :=
 Js (Uc a0 a1) fun t9 =>
 some (t9.1, t9.2.1, t9.2.2)
def Xf (a0 : (List UInt8)) (a1 : (List UInt8)) : Option (Bool) :=
 J2 (decide ((a1.length : Int) ≤ (a0.length : Int))) (Js (Xx a0 0 (a1.length : Int)) fun t14 =>
 some (decide (t14 = a1))) (some false)
def Z6 (a0 : (List UInt8)) (a1 : (List UInt8)) : Option ((List UInt8) × Bool) :=
 Js (Xf a0 a1) fun t8 =>
 J2 (!t8) (some (a0, false)) (Js (Xx a0 (a1.length : Int) a0.length) fun t14 =>
 some (t14, true))
def W9 (a0 : (List UInt8)) (a1 : (List UInt8)) : Option ((List UInt8) × Bool) :=
 Js (Z6 a0 a1) fun t8 =>
 some (t8.1, t8.2)
def Z5 (a0 : (List UInt8)) (a1 : (List UInt8)) : Option ((List UInt8)) :=
 Js (Xf a0 a1) fun t7 =>
 J2 t7 (Js (Xx a0 (a1.length : Int) a0.length) fun t11 =>
 some t11) (some a0)
def Wg (a0 : (List UInt8)) (a1 : (List UInt8)) : Option ((List UInt8)) :=
 Js (Z5 a0 a1) fun t7 =>
 some t7
def Un (a1 : Int) (next1 : (((List UInt8)) → Option ((List UInt8)))) (x0_2 : (List UInt8)) : Option ((List UInt8)) :=
 J2 (decide (0 < (x0_2.length : Int))) (Js (Xy x0_2 0) fun t10 =>
 J2 (decide (t10 = a1)) (Js (Xx x0_2 1 x0_2.length) fun t15 =>
 next1 t15) (some x0_2)) (some x0_2)
def W0 (a0 : (List UInt8)) (a1 : Int) : Option ((List UInt8)) :=
 Yz (fun next1 s => Un a1 next1 s) a0
def Uh (a1 : Int) (next1 : (((List UInt8)) → Option ((List UInt8)))) (x0_2 : (List UInt8)) : Option ((List UInt8)) :=
 J2 (decide (0 < (x0_2.length : Int))) (Js (gI ((x0_2.length : Int) - 1)) fun t12 =>
 Js (Xy x0_2 t12) fun t13 =>
 J2 (decide (t13 = a1)) (Js (gI ((x0_2.length : Int) - 1)) fun t20 =>
 Js (Xx x0_2 0 t20) fun t21 =>
 next1 t21) (some x0_2)) (some x0_2)
def Wm (a0 : (List UInt8)) (a1 : Int) : Option ((List UInt8)) :=
 Yz (fun next1 s => Uh a1 next1 s) a0
def Jcc (m : (Nat → Bool)) : Option ((Nat → Bool) × Bool) :=
 some (m, true)
def Xj (a0 : (List UInt8)) (next2 : ((Int × (Nat → Bool)) → Option ((Nat → Bool) × Bool))) (x4_2 : Int) (m_3 : (Nat → Bool)) : Option ((Nat → Bool) × Bool) :=
 J2 (decide (x4_2 < (a0.length : Int))) (Js (Xy a0 x4_2) fun t14 =>
 J2 (decide (128 ≤ t14)) (some (m_3, false)) (Js (gIx 256 t14) fun k19 =>
 Js (gI (x4_2 + 1)) fun t11 =>
 next2 (t11, (setA m_3 k19 true)))) (Jcc m_3)
def Ub (a0 : (List UInt8)) : Option ((Nat → Bool) × Bool) :=
 Yz (fun next2 s => Xj a0 next2 s.1 s.2) (0, (fun _ => false))
def Yy (a0 : (Nat → Bool)) (a1 : Int) : Option (Bool × (Nat → Bool)) :=
 Js (gIx 256 a1) fun k8 =>
 some ((a0 k8), a0)
def Za (next1 : (((List UInt8) × (Nat → Bool)) → Option ((List UInt8) × (Nat → Bool)))) (x0_2 : (List UInt8)) (m_2 : (Nat → Bool)) : Option ((List UInt8) × (Nat → Bool)) :=
 J2 (decide (0 < (x0_2.length : Int))) (Js (Xy x0_2 0) fun t10 =>
 Js (Yy m_2 t10) fun t11 =>
 J2 (!t11.1) (some (x0_2, t11.2)) (Js (Xx x0_2 1 x0_2.length) fun t14 =>
 next1 (t14, t11.2))) (some (x0_2, m_2))
def Wn (a0 : (List UInt8)) (a1 : (Nat → Bool)) : Option ((List UInt8) × (Nat → Bool)) :=
 Yz (fun next1 s => Za next1 s.1 s.2) (a0, a1)
def Yx (next1 : (((List UInt8) × (Nat → Bool)) → Option ((List UInt8) × (Nat → Bool)))) (x0_2 : (List UInt8)) (m_2 : (Nat → Bool)) : Option ((List UInt8) × (Nat → Bool)) :=
 J2 (decide (0 < (x0_2.length : Int))) (Js (gI ((x0_2.length : Int) - 1)) fun t12 =>
 Js (Xy x0_2 t12) fun t13 =>
 Js (Yy m_2 t13) fun t14 =>
 J2 (!t14.1) (some (x0_2, t14.2)) (Js (gI ((x0_2.length : Int) - 1)) fun t19 =>
 Js (Xx x0_2 0 t19) fun t20 =>
 next1 (t20, t14.2))) (some (x0_2, m_2))
def Vq (a0 : (List UInt8)) (a1 : (Nat → Bool)) : Option ((List UInt8) × (Nat → Bool)) :=
 Yz (fun next1 s => Yx next1 s.1 s.2) (a0, a1)
def V1 (a0 : (List UInt8)) : Option (Int × Int) :=
 J2 (decide ((a0.length : Int) < 1)) (some (65533, 0)) (none)
def Zk (a0 : (List UInt8)) (x10 : Bool) : Option (Int × Int) :=
 J2 x10 (Js (Xy a0 0) fun t12 =>
 Js (gK (-2147483648) 2147483647 t12) fun t13 =>
 some (t13, 1)) (Js (V1 a0) fun t16 =>
 some (t16.1, t16.2))
def Yh (a0 : (List UInt8)) : Option (Int × Int) :=
 J2 (decide (a0 ≠ [])) (Js (Xy a0 0) fun t8 =>
 Zk a0 (decide (t8 < 128))) (Zk a0 false)
def Jv (a0 : (List UInt8)) (a1 : Int) : Option (Int) :=
 Js (Q4 a0 a1) fun t7 =>
 some t7
def Ws (a0 : Int) (x3 : Bool) : Option (Bool) :=
 J2 x3 (some true) (J2 (decide (57343 < a0)) (J2 (decide (a0 ≤ 1114111)) (some true) (some false)) (some false))
def Jcr (a0 : Int) : Option (Bool) :=
 J2 (decide (0 ≤ a0)) (Ws a0 (decide (a0 < 55296))) (Ws a0 false)
def Jba (a0 : (List UInt8)) (next2 : ((Nat) → Option (Int))) (k_2 : Nat) : Option (Int) :=
 J2 (decide (k_2 < a0.length)) (Js (gNx a0 k_2) fun t176 =>
 J2 (decide (t176 = 65533)) (some ((k_2 : Nat) : Int)) (next2 (k_2 + 1))) (some (-1))
def Jbd (a0 : (List UInt8)) (a1 : Int) (x160 : Bool) : Option (Int) :=
 J2 x160 (Js (Jv a0 (wU8 a1)) fun t170 =>
 some t170) (J2 (decide (a1 = 65533)) (Yz (fun next2 s => Jba a0 next2 s) 0) (Js (Jcr a1) fun t185 =>
 J2 (!t185) (some (-1)) (none)))
def Jeu (a0 : (List UInt8)) (a1 : Int) : Option (Int) :=
 J2 (decide (0 ≤ a1)) (Jbd a0 a1 (decide (a1 < 128))) (Jbd a0 a1 false)
def Ja4 (a0 : (List UInt8)) (a1 : Int) : Option (Bool) :=
 Js (Jeu a0 a1) fun t7 =>
 some (decide (0 ≤ t7))
def We (a1 : (List UInt8)) (next1 : (((List UInt8)) → Option ((List UInt8)))) (x0_2 : (List UInt8)) : Option ((List UInt8)) :=
 J2 (decide (0 < (x0_2.length : Int))) (Js (Yh x0_2) fun t12 =>
 Js (Ja4 a1 t12.1) fun t17 =>
 J2 (!t17) (some x0_2) (Js (Xx x0_2 t12.2 x0_2.length) fun t21 =>
 next1 t21)) (some x0_2)
def Jcf (a0 : (List UInt8)) (a1 : (List UInt8)) : Option ((List UInt8)) :=
 Yz (fun next1 s => We a1 next1 s) a0
def Jcx (a0 : Int) : Option (Bool) :=
 some (decide ((wU8 (bAnd 8 a0 192)) ≠ 128))
def Yo (a0 : (List UInt8)) (x5_2 : Int) : Option (Int × Int) :=
 Js (Xx a0 x5_2 (a0.length : Int)) fun t40 =>
 Js (Yh t40) fun t41 =>
 Js (gI (x5_2 + t41.2)) fun t46 =>
 J2 (decide (t46 ≠ (a0.length : Int))) (some (65533, 1)) (some (t41.1, t41.2))
def Yp (a0 : (List UInt8)) (x5 : Int) : Option (Int × Int) :=
 J2 (decide (x5 < 0)) (Yo a0 0) (Yo a0 x5)
def Yr (a0 : (List UInt8)) (t21 : Int) (next3 : ((Int) → Option (Int × Int))) (x5_4 : Int) : Option (Int × Int) :=
 J2 (decide ((max t21 0) ≤ x5_4)) (Js (Xy a0 x5_4) fun t32 =>
 Js (Jcx t32) fun t33 =>
 J2 t33 (Yp a0 x5_4) (Js (gI (x5_4 - 1)) fun t29 =>
 next3 t29)) (Yp a0 x5_4)
def V0 (a0 : (List UInt8)) : Option (Int × Int) :=
 J2 (decide ((a0.length : Int) = 0)) (some (65533, 0)) (Js (gI ((a0.length : Int) - 1)) fun t12 =>
 Js (Xy a0 t12) fun t15 =>
 Js (gK (-2147483648) 2147483647 t15) fun t16 =>
 J2 (decide (t16 < 128)) (some (t16, 1)) (Js (gI ((a0.length : Int) - 4)) fun t21 =>
 Js (gI (t12 - 1)) fun t24 =>
 Yz (fun next3 s => Yr a0 t21 next3 s) t24))
def Vr (a1 : (List UInt8)) (x0_2 : (List UInt8)) (next1 : (((List UInt8)) → Option ((List UInt8)))) (x5 : Int) (x6 : Int) : Option ((List UInt8)) :=
 Js (Ja4 a1 x5) fun t25 =>
 J2 (!t25) (some x0_2) (Js (gI ((x0_2.length : Int) - x6)) fun t31 =>
 Js (Xx x0_2 0 t31) fun t32 =>
 next1 t32)
def Vt (a1 : (List UInt8)) (next1 : (((List UInt8)) → Option ((List UInt8)))) (x0_2 : (List UInt8)) : Option ((List UInt8)) :=
 J2 (decide (0 < (x0_2.length : Int))) (Js (gI ((x0_2.length : Int) - 1)) fun t13 =>
 Js (Xy x0_2 t13) fun t14 =>
 Js (gK (-2147483648) 2147483647 t14) fun t15 =>
 J2 (decide (128 ≤ t15)) (Js (V0 x0_2) fun t20 =>
 Vr a1 x0_2 next1 t20.1 t20.2) (Vr a1 x0_2 next1 t15 1)) (some x0_2)
def Jbx (a0 : (List UInt8)) (a1 : (List UInt8)) : Option ((List UInt8)) :=
 Yz (fun next1 s => Vt a1 next1 s) a0
def Jbz (a0 : (List UInt8)) (a1 : (List UInt8)) : Option ((List UInt8)) :=
 Js (Ub a1) fun t31 =>
 J2 t31.2 (Js (Vq a0 t31.1) fun t36 =>
 Js (Wn t36.1 t36.2) fun t37 =>
 some t37.1) (Js (Jbx a0 a1) fun t40 =>
 Js (Jcf t40 a1) fun t42 =>
 some t42)
def Jbk (a0 : (List UInt8)) (a1 : (List UInt8)) : Option ((List UInt8)) :=
 J2 (decide (a0 = [])) (some a0) (J2 (decide (a1 = [])) (some a0) (J2 (decide ((a1.length : Int) = 1)) (Js (Xy a1 0) fun t19 =>
 J2 (decide (t19 < 128)) (Js (Xy a1 0) fun t24 =>
 Js (Wm a0 t24) fun t25 =>
 Js (Xy a1 0) fun t27 =>
 Js (W0 t25 t27) fun t28 =>
 some t28) (Jbz a0 a1)) (Jbz a0 a1)))
def Zj (a0 : (List UInt8)) (x6 : (List UInt8)) : Option (Int × Bool) :=
 J2 (decide (x6 = [])) (some (0, false)) (J2 (decide (10 < (x6.length : Int))) (some (0, false)) (Js (Jbk x6 [48, 49, 50, 51, 52, 53, 54, 55, 56, 57]) fun t22 =>
 J2 (decide (t22 ≠ [])) (some (0, false)) (Js (Jhx a0) fun t27 =>
 Js (Y8 t27) fun t35 =>
 some (t27, (decide (t35 = a0))))))
def Zh (a0 : (List UInt8)) (a1 : Bool) : Option (Int × Bool) :=
 J2 a1 (Js (Wg a0 [45]) fun t12 =>
 Zj a0 t12) (Zj a0 a0)
def Zq (a0 : (List UInt8)) (next1 : ((Int × Nat) → Option (Int))) (x2_2 : Int) (k_2 : Nat) : Option (Int) :=
 J2 (decide (k_2 < a0.length)) (Js (gNx a0 k_2) fun t5 =>
 Js (gI (x2_2 + 1)) fun t8 =>
 next1 (t8, (k_2 + 1))) (some x2_2)
def Z9 (a0 : (List UInt8)) : Option (Int) :=
 Yz (fun next1 s => Zq a0 next1 s.1 s.2) (0, 0)
def Jef (x1 : Int) (x0 : (List UInt8)) (l : (List (List UInt8))) : Option ((List (List UInt8))) :=
 J2 (decide (0 < x1)) (Js (gI (x1 - 1)) fun t46 =>
 Js (Yv l t46) fun t48 =>
 Js (gSet l t46 x0) fun l0 =>
 some l0) (some l)
def Jcb (x1 : Int) (next3 : (((List UInt8) × Int × (List (List UInt8))) → Option ((List (List UInt8))))) (x0_3 : (List UInt8)) (x7_2 : Int) (l_3 : (List (List UInt8))) : Option ((List (List UInt8))) :=
 Js (gI (x1 - 1)) fun t24 =>
 J2 (decide (x7_2 < t24)) (Js (Yh x0_3) fun t30 =>
 Js (Xx x0_3 0 t30.2) fun t37 =>
 Js (Yv l_3 x7_2) fun t38 =>
 Js (gSet l_3 x7_2 t37) fun l0_2 =>
 Js (Xx x0_3 t30.2 x0_3.length) fun t41 =>
 Js (gI (x7_2 + 1)) fun t27 =>
 next3 (t41, t27, l0_2)) (Jef x1 x0_3 l_3)
def Jaa (a0 : (List UInt8)) (x1 : Int) : Option ((List (List UInt8))) :=
 Js (gMake 16 x1 []) fun t21 =>
 Yz (fun next3 s => Jcb x1 next3 s.1 s.2.1 s.2.2) (a0, 0, t21)
def Jf8 (a0 : (List UInt8)) (a1 : Int) : Option ((List (List UInt8))) :=
 Js (Z9 a0) fun t11 =>
 J2 (decide (a1 < 0)) (Jaa a0 t11) (J2 (decide (t11 < a1)) (Jaa a0 t11) (Jaa a0 a1))
def Ug (a0 : (List UInt8)) (a1 : (List UInt8)) : Option (Int) :=
 Js (Yn a0 a1) fun t7 =>
 some t7
def Jc6 (a1 : (List UInt8)) (next1 : (((List UInt8) × Int) → Option (Int))) (x0_2 : (List UInt8)) (x5_2 : Int) : Option (Int) :=
 Js (Ug x0_2 a1) fun t22 =>
 J2 (decide (t22 = (-1))) (some x5_2) (Js (gI (x5_2 + 1)) fun t27 =>
 Js (gI (t22 + (a1.length : Int))) fun t32 =>
 Js (Xx x0_2 t32 x0_2.length) fun t33 =>
 next1 (t33, t27))
def Jaq (a0 : (List UInt8)) (a1 : (List UInt8)) : Option (Int) :=
 J2 (decide ((a1.length : Int) = 0)) (Js (Z9 a0) fun t11 =>
 Js (gI (t11 + 1)) fun t12 =>
 some t12) (J2 (decide ((a1.length : Int) = 1)) (Js (Xy a1 0) fun t18 =>
 Js (gCnB a0 t18) fun t19 =>
 some t19) (Yz (fun next1 s => Jc6 a1 next1 s.1 s.2) (a0, 0)))
def Y3 (x0 : (List UInt8)) (x10 : Int) (l : (List (List UInt8))) : Option ((List (List UInt8))) :=
 Js (Yv l x10) fun t61 =>
 Js (gSet l x10 x0) fun l0 =>
 Js (gI (x10 + 1)) fun t64 =>
 Js (Xx l0 0 t64) fun t65 =>
 some t65
def Qg (a1 : (List UInt8)) (a2 : Int) (t33 : Int) (next3 : (((List UInt8) × Int × (List (List UInt8))) → Option ((List (List UInt8))))) (x0_3 : (List UInt8)) (x10_3 : Int) (l_3 : (List (List UInt8))) : Option ((List (List UInt8))) :=
 J2 (decide (x10_3 < t33)) (Js (Ug x0_3 a1) fun t39 =>
 J2 (decide (t39 < 0)) (Y3 x0_3 x10_3 l_3) (Js (gI (t39 + a2)) fun t47 =>
 Js (Xx x0_3 0 t47) fun t48 =>
 Js (Yv l_3 x10_3) fun t49 =>
 Js (gSet l_3 x10_3 t48) fun l0_2 =>
 Js (gI (t39 + (a1.length : Int))) fun t54 =>
 Js (Xx x0_3 t54 x0_3.length) fun t55 =>
 Js (gI (x10_3 + 1)) fun t57 =>
 next3 (t55, t57, l0_2))) (Y3 x0_3 x10_3 l_3)
def Vo (a0 : (List UInt8)) (a1 : (List UInt8)) (a2 : Int) (x3 : Int) : Option ((List (List UInt8))) :=
 Js (gI ((a0.length : Int) + 1)) fun t28 =>
 Js (gMake 16 (min x3 t28) []) fun t31 =>
 Js (gI ((min x3 t28) - 1)) fun t33 =>
 Yz (fun next3 s => Qg a1 a2 t33 next3 s.1 s.2.1 s.2.2) (a0, 0, t31)
def Uo (a0 : (List UInt8)) (a1 : (List UInt8)) (a2 : Int) (a3 : Int) : Option ((List (List UInt8))) :=
 J2 (decide (a3 = 0)) (some ([] : List (List UInt8))) (J2 (decide (a1 = [])) (Js (Jf8 a0 a3) fun t18 =>
 some t18) (J2 (decide (a3 < 0)) (Js (Jaq a0 a1) fun t23 =>
 Js (gI (t23 + 1)) fun t24 =>
 Vo a0 a1 a2 t24) (Vo a0 a1 a2 a3)))
def Vx (a0 : (List UInt8)) (a1 : (List UInt8)) : Option ((List (List UInt8))) :=
 Js (Uo a0 a1 0 (-1)) fun t7 =>
 some t7
def Jgh (a0 : Int) : Option ((List UInt8)) :=
 J2 (decide (a0 = 1)) (some [98, 121, 116, 101]) (J2 (decide (a0 = 2)) (some [97, 115, 99, 105, 105]) (J2 (decide (a0 = 3)) (some [115, 104, 111, 114, 116]) (J2 (decide (a0 = 4)) (some [108, 111, 110, 103]) (J2 (decide (a0 = 5)) (some [114, 97, 116, 105, 111]) (J2 (decide (a0 = 7)) (some [111, 112, 97, 113, 117, 101]) (some [115, 105, 103, 110, 101, 100]))))))
def Zr (a0 : (List UInt8)) (next1 : ((Int) → Option (Int))) (x7_2 : Int) : Option (Int) :=
 J2 (decide (x7_2 < 7)) (Js (Yv ([1, 2, 3, 4, 5, 7, 9] : List Int) x7_2) fun t9 =>
 Js (Jgh t9) fun t12 =>
 J2 (decide (t12 = a0)) (some t9) (Js (gI (x7_2 + 1)) fun t16 =>
 next1 t16)) (some 0)
def Jfl (a0 : (List UInt8)) : Option (Int) :=
 Yz (fun next1 s => Zr a0 next1 s) 0
def Jd1 (x0 : (List UInt8)) (l : (List Int)) : Option ((List UInt8) × Bool) :=
 some ((Jaz l), (decide (x0 = [])))
def Q2 (next2 : (((List UInt8) × (List Int)) → Option ((List UInt8) × Bool))) (x0_3 : (List UInt8)) (l_3 : (List Int)) : Option ((List UInt8) × Bool) :=
 J2 (decide (2 ≤ (x0_3.length : Int))) (Js (Xy x0_3 0) fun t13 =>
 Js (Jv [48, 49, 50, 51, 52, 53, 54, 55, 56, 57, 97, 98, 99, 100, 101, 102] t13) fun t14 =>
 Js (Xy x0_3 1) fun t16 =>
 Js (Jv [48, 49, 50, 51, 52, 53, 54, 55, 56, 57, 97, 98, 99, 100, 101, 102] t16) fun t17 =>
 J2 (decide (t14 < 0)) (some ([], false)) (J2 (decide (t17 < 0)) (some ([], false)) (Js (gShl t14 4) fun t26 =>
 Js (Wz 1 l_3 ([(wU8 (wI64 (bOr 64 t26 t17)))] : List Int)) fun l31 =>
 Js (Xx x0_3 2 x0_3.length) fun t11 =>
 next2 (t11, l31)))) (Jd1 x0_3 l_3)
def Uv (a0 : (List UInt8)) : Option ((List UInt8) × Bool) :=
 Yz (fun next2 s => Q2 next2 s.1 s.2) (a0, ([] : List Int))
def Jav (a0 : (List UInt8)) : Option (Tc × Bool) :=
 Js (Ym a0 [47]) fun t13 =>
 Js (Zh t13.1 false) fun t19 =>
 Js (Zh t13.2.1 false) fun t24 =>
 J2 t13.2.2 (J2 t19.2 (some ((⟨t19.1, t24.1⟩ : Tc), t24.2)) (some ((⟨t19.1, t24.1⟩ : Tc), false))) (some ((⟨t19.1, t24.1⟩ : Tc), false))
def Va (a0 : Int) (a1 : (List (List UInt8))) : Option (Tb × Bool) :=
 Js (Jev a1 []) fun t35 =>
 Js (Uv t35) fun t36 =>
 some ((⟨a0, t36.1, ([] : List Int), ([] : List Tc), ([] : List Ta)⟩ : Tb), t36.2)
def Jbg (a0 : Int) (l : (List Int)) (l_2 : (List Tc)) : Option (Tb × Bool) :=
 some ((⟨a0, [], l, l_2, ([] : List Ta)⟩ : Tb), true)
def Vb (x45_2 : Int) (next3 : ((Int × (List Int) × (List Tc)) → Option (Tb × Bool))) (x11 : Bool) (l_7 : (List Int)) (l_8 : (List Tc)) : Option (Tb × Bool) :=
 J2 (!x11) (some ((⟨0, [], ([] : List Int), ([] : List Tc), ([] : List Ta)⟩ : Tb), false)) (Js (gI (x45_2 + 1)) fun t78 =>
 next3 (t78, l_7, l_8))
def Qo (a0 : Int) (a1 : (List (List UInt8))) (next3 : ((Int × (List Int) × (List Tc)) → Option (Tb × Bool))) (x45_2 : Int) (l_5 : (List Int)) (l_6 : (List Tc)) : Option (Tb × Bool) :=
 J2 (decide (x45_2 < (a1.length : Int))) (Js (Yv a1 x45_2) fun t47 =>
 J2 (decide (a0 = 5)) (Js (Jav t47) fun t53 =>
 Js (Wz 16 l_6 ([t53.1] : List Tc)) fun l60 =>
 Vb x45_2 next3 t53.2 l_5 l60) (Js (Zh t47 (decide (a0 = 9))) fun t66 =>
 Js (Wz 8 l_5 ([t66.1] : List Int)) fun l73 =>
 Vb x45_2 next3 t66.2 l73 l_6)) (Jbg a0 l_5 l_6)
def Jau (a0 : Int) (a1 : (List (List UInt8))) : Option (Tb × Bool) :=
 Js (Jb7 a0) fun t17 =>
 J2 t17 (J2 (decide (1 < (a1.length : Int))) (some ((⟨0, [], ([] : List Int), ([] : List Tc), ([] : List Ta)⟩ : Tb), false)) (J2 (decide ((a1.length : Int) = 1)) (Js (Yv a1 0) fun t27 =>
 J2 (decide (t27 = [])) (some ((⟨0, [], ([] : List Int), ([] : List Tc), ([] : List Ta)⟩ : Tb), false)) (Va a0 a1)) (Va a0 a1))) (Yz (fun next3 s => Qo a0 a1 next3 s.1 s.2.1 s.2.2) (0, ([] : List Int), ([] : List Tc)))
def Jam (a0 : (List Ta)) : Option ((List Ta)) :=
 J2 (decide ((a0.length : Int) = 0)) (some ([] : List Ta)) (none)
def Vw (a0 : Tb) : Option (Tb) :=
 Js (Um a0.kaf) fun t5 =>
 Js (Zx a0.kac) fun t10 =>
 Js (Jam a0.kab) fun t15 =>
 some (⟨a0.kad, a0.kae, t5, t10, t15⟩ : Tb)
def Vu (a0 : (List UInt8)) : Option (Tb × Int) :=
 J2 (decide (1000000 < (a0.length : Int))) (some ((⟨0, [], ([] : List Int), ([] : List Tc), ([] : List Ta)⟩ : Tb), 4)) (Js (Vx a0 [32]) fun t14 =>
 Js (Yv t14 0) fun t16 =>
 Js (Jfl t16) fun t18 =>
 J2 (decide (t18 = 0)) (some ((⟨0, [], ([] : List Int), ([] : List Tc), ([] : List Ta)⟩ : Tb), 8)) (Js (Xx t14 1 t14.length) fun t25 =>
 Js (Jau t18 t25) fun t26 =>
 J2 (!t26.2) (some ((⟨0, [], ([] : List Int), ([] : List Tc), ([] : List Ta)⟩ : Tb), 8)) (Js (Up t26.1) fun t33 =>
 J2 (decide (t33 ≠ 0)) (some ((⟨0, [], ([] : List Int), ([] : List Tc), ([] : List Ta)⟩ : Tb), t33)) (Js (Vw t26.1) fun t39 =>
 some (t39, 0)))))
def Je5 (a0 : Int) (x4 : Bool) : Option (Int) :=
 J2 x4 (some 1) (J2 (decide (a0 = 3)) (some 2) (J2 (decide (a0 = 4)) (J2 (decide (a0 = 4)) (some 4) (J2 (decide (a0 = 5)) (some 8) (some 0))) (J2 (decide (a0 = 9)) (J2 (decide (a0 = 9)) (some 4) (J2 (decide (a0 = 5)) (some 8) (some 0))) (J2 (decide (a0 = 13)) (some 4) (J2 (decide (a0 = 5)) (some 8) (some 0))))))
def Jgk (a0 : Int) : Option (Int) :=
 J2 (decide (a0 = 1)) (Je5 a0 (decide (a0 = 1))) (J2 (decide (a0 = 2)) (Je5 a0 (decide (a0 = 2))) (Je5 a0 (decide (a0 = 7))))
def Jhv (a0 : Int) : Option (Int × Int) :=
 J2 (decide (a0 = 1)) (some (0, 255)) (J2 (decide (a0 = 3)) (some (0, 65535)) (J2 (decide (a0 = 9)) (some ((-2147483648), 2147483647)) (some (0, 4294967295))))
def Jb0 (a0 : Tb) : Option (Int) :=
 J2 (decide (a0.kad = 13)) (none) (some 0)
def Jah (a0 : Tb) : Option (Int) :=
 J2 (decide (a0.kad = 2)) (Js (Jv a0.kae 0) fun t130 =>
 J2 (decide (0 ≤ t130)) (some 9) (Jb0 a0)) (Jb0 a0)
def Zg (a0 : Tb) (next6 : ((Int) → Option (Int))) (x101_2 : Int) : Option (Int) :=
 J2 (decide (x101_2 < (a0.kac.length : Int))) (Js (Yv a0.kac x101_2) fun t103 =>
 J2 (decide (t103.Num < 0)) (some 2) (J2 (decide (4294967295 < t103.Num)) (some 2) (J2 (decide (t103.Den < 0)) (some 2) (J2 (decide (4294967295 < t103.Den)) (some 2) (Js (gI (x101_2 + 1)) fun t123 =>
 next6 t123))))) (Jah a0)
def Jaf (a0 : Tb) : Option (Int) :=
 Yz (fun next6 s => Zg a0 next6 s) 0
def Zf (a0 : Tb) (t79 : (Int × Int)) (next7 : ((Int) → Option (Int))) (x85_2 : Int) : Option (Int) :=
 J2 (decide (x85_2 < (a0.kaf.length : Int))) (Js (Yv a0.kaf x85_2) fun t87 =>
 J2 (decide (t87 < t79.1)) (some 2) (J2 (decide (t79.2 < t87)) (some 2) (Js (gI (x85_2 + 1)) fun t97 =>
 next7 t97))) (Jaf a0)
def X5 (a0 : Tb) : Option (Int) :=
 Js (Jhv a0.kad) fun t79 =>
 Yz (fun next7 s => Zf a0 t79 next7 s) 0
def Ul (a0 : Tb) (x42_3 : Bool) : Option (Int) :=
 J2 x42_3 (J2 x42_3 (some 1) (X5 a0)) (J2 (decide (0 < (a0.kab.length : Int))) (J2 (decide (a0.kad ≠ 13)) (some 1) (X5 a0)) (X5 a0))
def Jan (a0 : Tb) (x42_2 : Bool) : Option (Int) :=
 J2 x42_2 (J2 x42_2 (some 1) (X5 a0)) (J2 (decide (0 < (a0.kac.length : Int))) (Ul a0 (decide (a0.kad ≠ 5))) (Ul a0 false))
def Jaj (a0 : Tb) (x4 : Bool) (x42 : Bool) : Option (Int) :=
 J2 x42 (J2 x42 (some 1) (X5 a0)) (J2 (decide (0 < (a0.kaf.length : Int))) (Jan a0 (!x4)) (Jan a0 false))
def X7 (a0 : Tb) (x3 : Bool) (x4 : Bool) : Option (Int) :=
 Js (Jgk a0.kad) fun t40 =>
 J2 (decide (t40 = 0)) (some 10) (J2 (decide (a0.kae ≠ [])) (Jaj a0 x4 (!x3)) (Jaj a0 x4 false))
def Jac (a0 : Tb) : Option (Int) :=
 J2 (decide (a0.kad = 2)) (J2 (decide (a0.kad = 1)) (X7 a0 true true) (J2 (decide (a0.kad = 3)) (X7 a0 true true) (J2 (decide (a0.kad = 4)) (X7 a0 true true) (X7 a0 true (decide (a0.kad = 9)))))) (J2 (decide (a0.kad = 1)) (X7 a0 (decide (a0.kad = 7)) true) (J2 (decide (a0.kad = 3)) (X7 a0 (decide (a0.kad = 7)) true) (J2 (decide (a0.kad = 4)) (X7 a0 (decide (a0.kad = 7)) true) (X7 a0 (decide (a0.kad = 7)) (decide (a0.kad = 9))))))
def Jbu (x19_2 : Int) (next1 : ((Int) → Option (Int))) (x29 : Int) (x30 : Bool) (m : Int) (m_2 : Int) (m_3 : (List UInt8)) (m_4 : (List Int)) (m_5 : (List Tc)) (m_6 : (List Ta)) : Option (Int) :=
 Js (gI (x19_2 + 1)) fun t78 =>
 next1 t78
def Jda (a1 : Int) (self : ((List Ta) × Int) → Option (Int)) (x19_2 : Int) (next1 : ((Int) → Option (Int))) (t22 : Ta) : Option (Int) :=
 J2 (decide (t22.Value.kad ≠ 13)) (Js (Jac t22.Value) fun t51 =>
 J2 (decide (t51 ≠ 0)) (some t51) (Jbu x19_2 next1 t22.Tag (decide (65535 < t22.Tag)) t22.Tag t22.Value.kad t22.Value.kae t22.Value.kaf t22.Value.kac t22.Value.kab)) (J2 (decide (t22.Value.kae ≠ [])) (some 1) (J2 (decide (0 < (t22.Value.kaf.length : Int))) (some 1) (J2 (decide (0 < (t22.Value.kac.length : Int))) (some 1) (Js (gI (a1 + 1)) fun t73 =>
 Js (self (t22.Value.kab, t73)) fun t74 =>
 J2 (decide (t74 ≠ 0)) (some t74) (Jbu x19_2 next1 t22.Tag (decide (65535 < t22.Tag)) t22.Tag t22.Value.kad t22.Value.kae t22.Value.kaf t22.Value.kac t22.Value.kab)))))
def Jbw (a0 : (List Ta)) (a1 : Int) (self : ((List Ta) × Int) → Option (Int)) (next1 : ((Int) → Option (Int))) (x19_2 : Int) : Option (Int) :=
 J2 (decide (x19_2 < (a0.length : Int))) (Js (Yv a0 x19_2) fun t22 =>
 J2 (decide (t22.Tag < 0)) (some 2) (J2 (decide (65535 < t22.Tag)) (some 2) (J2 (decide (0 < x19_2)) (Js (gI (x19_2 - 1)) fun t39 =>
 Js (Yv a0 t39) fun t40 =>
 J2 (decide (t22.Tag ≤ t40.Tag)) (some 5) (Jda a1 self x19_2 next1 t22)) (Jda a1 self x19_2 next1 t22)))) (some 0)
def Z1 (self : ((List Ta) × Int) → Option (Int)) (a0 : (List Ta)) (a1 : Int) : Option (Int) :=
 J2 (decide (5 < a1)) (some 4) (J2 (decide (200 < (a0.length : Int))) (some 4) (Yz (fun next1 s => Jbw a0 a1 self next1 s) 0))
def Jfu (a0 : (List Ta)) (a1 : Int) : Option (Int) :=
 Yz (fun (self : ((List Ta) × Int) → Option (Int)) (s : (List Ta) × Int) => Z1 self s.1 s.2) (a0, a1)
def Ji6 (l : (List Int)) : Option ((List UInt8)) :=
 some (Jaz l)
def Jdj (a1 : Int) (x14_2 : Int) (l_3 : (List Int)) (next2 : ((Int × (List Int)) → Option ((List UInt8)))) (x9 : Int) : Option ((List UInt8)) :=
 Js (gI (8 * x14_2)) fun t27 =>
 Js (gShr 64 a1 t27) fun t28 =>
 Js (Yv l_3 x9) fun t30 =>
 Js (gSet l_3 x9 (wU8 t28)) fun l0 =>
 Js (gI (x14_2 + 1)) fun t31 =>
 next2 (t31, l0)
def W3 (a0 : Bool) (a1 : Int) (a2 : Int) (t11 : (List Int)) (next2 : ((Int × (List Int)) → Option ((List UInt8)))) (x14_2 : Int) (l_3 : (List Int)) : Option ((List UInt8)) :=
 J2 (decide (x14_2 < (t11.length : Int))) (J2 a0 (Js (gI (a2 - 1)) fun t20 =>
 Js (gI (t20 - x14_2)) fun t22 =>
 Jdj a1 x14_2 l_3 next2 t22) (Jdj a1 x14_2 l_3 next2 x14_2)) (Ji6 l_3)
def X8 (a0 : Bool) (a1 : Int) (a2 : Int) : Option ((List UInt8)) :=
 Js (gMake 1 a2 0) fun t11 =>
 Yz (fun next2 s => W3 a0 a1 a2 t11 next2 s.1 s.2) (0, t11)
def Yb (a0 : Te) (a1 : Int) (a2 : Int) (a3 : Int) : Option (Te) :=
 Js (Xx a0.s_ 0 a1) fun t14 =>
 Js (X8 a0.kaa a2 a3) fun t21 =>
 Js (Xh t14 t21) fun t22 =>
 Js (gI (a1 + a3)) fun t29 =>
 Js (Xx a0.s_ t29 a0.s_.length) fun t30 =>
 Js (Xh t22 t30) fun t31 =>
 some (⟨t31, a0.kaa⟩ : Te)
def Jbi (a0 : Te) (a1 : (List UInt8)) (m : (List UInt8)) : Option (Int × Te) :=
 Js (Xh m a1) fun t30 =>
 some ((m.length : Int), (⟨t30, a0.kaa⟩ : Te))
def Jbt (a0 : Te) (a1 : (List UInt8)) : Option (Int × Te) :=
 Js (gRem (a0.s_.length : Int) 2) fun t11 =>
 J2 (decide (t11 = 1)) (Js (Xh a0.s_ [0]) fun t17 =>
 Jbi a0 a1 t17) (Jbi a0 a1 a0.s_)
def U1 (a0 : Bool) (a1 : Tb) (next3 : (((List UInt8) × Int) → Option ((List UInt8)))) (x5_4 : (List UInt8)) (x36_2 : Int) : Option ((List UInt8)) :=
 J2 (decide (x36_2 < (a1.kac.length : Int))) (Js (Yv a1.kac x36_2) fun t38 =>
 Js (X8 a0 t38.Num 4) fun t44 =>
 Js (X8 a0 t38.Den 4) fun t48 =>
 Js (Xh t44 t48) fun t49 =>
 Js (Xh x5_4 t49) fun t50 =>
 Js (gI (x36_2 + 1)) fun t51 =>
 next3 (t50, t51)) (some x5_4)
def Jdb (a0 : Bool) (a1 : Tb) (x5_2 : (List UInt8)) : Option ((List UInt8)) :=
 Yz (fun next3 s => U1 a0 a1 next3 s.1 s.2) (x5_2, 0)
def Uz (a0 : Bool) (a1 : Tb) (next4 : (((List UInt8) × Int) → Option ((List UInt8)))) (x5_6 : (List UInt8)) (x20_2 : Int) : Option ((List UInt8)) :=
 J2 (decide (x20_2 < (a1.kaf.length : Int))) (Js (Yv a1.kaf x20_2) fun t22 =>
 Js (Jgk a1.kad) fun t29 =>
 Js (X8 a0 t22 t29) fun t30 =>
 Js (Xh x5_6 t30) fun t31 =>
 Js (gI (x20_2 + 1)) fun t32 =>
 next4 (t31, t32)) (Jdb a0 a1 x5_6)
def Jdf (a0 : Bool) (a1 : Tb) (x5 : (List UInt8)) : Option ((List UInt8)) :=
 Yz (fun next4 s => Uz a0 a1 next4 s.1 s.2) (x5, 0)
def Zz (a0 : Bool) (a1 : Tb) : Option ((List UInt8)) :=
 J2 (decide (a1.kad = 2)) (Js (Xh a1.kae [0]) fun t16 =>
 Jdf a0 a1 t16) (Jdf a0 a1 a1.kae)
def Jjh (a0 : Tb) : Option (Int) :=
 J2 (decide (a0.kad = 13)) (some 1) (Js (Zz false a0) fun t7 =>
 Js (Jgk a0.kad) fun t11 =>
 Js (gQuo (t7.length : Int) t11) fun t12 =>
 some t12)
def V4 (x25_2 : Int) (next1 : ((Int × (List UInt8) × Bool) → Option (Int × Te))) (m_5 : (List UInt8)) (m_6 : Bool) : Option (Int × Te) :=
 Js (gI (x25_2 + 1)) fun t107 =>
 next1 (t107, m_5, m_6)
def Zm (a1 : (List Ta)) (self : (Te × (List Ta)) → Option (Int × Te)) (t17 : (Int × Te)) (next1 : ((Int × (List UInt8) × Bool) → Option (Int × Te))) (x25_2 : Int) (m_3 : (List UInt8)) (m_4 : Bool) : Option (Int × Te) :=
 J2 (decide (x25_2 < (a1.length : Int))) (Js (Yv a1 x25_2) fun t28 =>
 Js (gI (t17.1 + 2)) fun t31 =>
 Js (gI (12 * x25_2)) fun t33 =>
 Js (gI (t31 + t33)) fun t34 =>
 Js (Yb (⟨m_3, m_4⟩ : Te) t34 t28.Tag 2) fun t39 =>
 Js (gI (t34 + 2)) fun t42 =>
 Js (Yb t39 t42 t28.Value.kad 2) fun t46 =>
 Js (gI (t34 + 4)) fun t49 =>
 Js (Jjh t28.Value) fun t52 =>
 Js (Yb t46 t49 t52 4) fun t53 =>
 J2 (decide (t28.Value.kad = 13)) (Js (gI (t34 + 8)) fun t60 =>
 Js (self (t53, t28.Value.kab)) fun t65 =>
 Js (Yb t65.2 t60 t65.1 4) fun t66 =>
 V4 x25_2 next1 t66.s_ t66.kaa) (Js (Zz t53.kaa t28.Value) fun t73 =>
 J2 (decide (4 < (t73.length : Int))) (Js (gI (t34 + 8)) fun t79 =>
 Js (Jbt t53 t73) fun t82 =>
 Js (Yb t82.2 t79 t82.1 4) fun t83 =>
 V4 x25_2 next1 t83.s_ t83.kaa) (Js (gI (t34 + 8)) fun t90 =>
 Js (Xx t53.s_ 0 t90) fun t91 =>
 Js (Xh t91 t73) fun t93 =>
 Js (gI (t34 + 8)) fun t99 =>
 Js (gI (t99 + (t73.length : Int))) fun t102 =>
 Js (Xx t53.s_ t102 t53.s_.length) fun t103 =>
 Js (Xh t93 t103) fun t104 =>
 V4 x25_2 next1 t104 t53.kaa))) (some (t17.1, (⟨m_3, m_4⟩ : Te)))
def Yq (self : (Te × (List Ta)) → Option (Int × Te)) (a0 : Te) (a1 : (List Ta)) : Option (Int × Te) :=
 Js (gI (12 * (a1.length : Int))) fun t13 =>
 Js (gI (2 + t13)) fun t14 =>
 Js (gI (t14 + 4)) fun t15 =>
 Js (gRep [0] t15) fun t16 =>
 Js (Jbt a0 t16) fun t17 =>
 Js (Yb t17.2 t17.1 (a1.length : Int) 2) fun t22 =>
 Yz (fun next1 s => Zm a1 self t17 next1 s.1 s.2.1 s.2.2) (0, t22.s_, t22.kaa)
def Jc9 (a0 : Te) (a1 : (List Ta)) : Option (Int × Te) :=
 Yz (fun (self : (Te × (List Ta)) → Option (Int × Te)) (s : Te × (List Ta)) => Yq self s.1 s.2) (a0, a1)
def Ji9 (m_2 : (List UInt8)) (m_3 : Bool) : Option ((List UInt8)) :=
 some m_2
def U2 (a0 : Td) (next3 : ((Int × Int × (List UInt8) × Bool) → Option ((List UInt8)))) (x4_2 : Int) (x37_2 : Int) (m_6 : (List UInt8)) (m_7 : Bool) : Option ((List UInt8)) :=
 J2 (decide (x37_2 < (a0.kag.length : Int))) (Js (Yv a0.kag x37_2) fun t39 =>
 Js (Jc9 (⟨m_6, m_7⟩ : Te) t39) fun t43 =>
 Js (Yb t43.2 x4_2 t43.1 4) fun t47 =>
 Js (gI (t43.1 + 2)) fun t49 =>
 Js (gI (12 * (t39.length : Int))) fun t52 =>
 Js (gI (t49 + t52)) fun t53 =>
 Js (gI (x37_2 + 1)) fun t54 =>
 next3 (t53, t54, t47.s_, t47.kaa)) (Ji9 m_6 m_7)
def Jdc (a0 : Td) (m : (List UInt8)) : Option ((List UInt8)) :=
 Js (X8 a0.Big 42 2) fun t26 =>
 Js (X8 a0.Big 0 4) fun t29 =>
 Js (Xh t26 t29) fun t30 =>
 Js (Xh m t30) fun t31 =>
 Yz (fun next3 s => U2 a0 next3 s.1 s.2.1 s.2.2.1 s.2.2.2) (4, 0, t31, a0.Big)
def Jhr (a0 : Td) : Option ((List UInt8)) :=
 J2 a0.Big (Jdc a0 [77, 77]) (Jdc a0 [73, 73])
def Jel (a0 : Td) : Option (Int) :=
 Js (Jhr a0) fun t24 =>
 J2 (decide (65000 < (t24.length : Int))) (some 4) (some 0)
def Vg (a0 : Td) (next2 : ((Int) → Option (Int))) (x13_2 : Int) : Option (Int) :=
 J2 (decide (x13_2 < (a0.kag.length : Int))) (Js (Yv a0.kag x13_2) fun t15 =>
 Js (Jfu t15 1) fun t18 =>
 J2 (decide (t18 ≠ 0)) (some t18) (Js (gI (x13_2 + 1)) fun t22 =>
 next2 t22)) (Jel a0)
def Uy (a0 : Td) : Option (Int) :=
 J2 (decide (20 < (a0.kag.length : Int))) (some 4) (Yz (fun next2 s => Vg a0 next2 s) 0)
def Jei (a0 : (List UInt8)) : Option (Int × Bool) :=
 Js (Jhx a0) fun t39 =>
 some (t39, true)
def Jca (a0 : (List UInt8)) (a1 : Int) (x8 : (List UInt8)) : Option (Int × Bool) :=
 J2 (decide (x8 = [])) (some (0, false)) (J2 (decide (a1 < (x8.length : Int))) (some (0, false)) (Js (Jbk x8 [48, 49, 50, 51, 52, 53, 54, 55, 56, 57]) fun t25 =>
 J2 (decide (t25 ≠ [])) (some (0, false)) (Js (Xy x8 0) fun t30 =>
 J2 (decide (t30 = 48)) (J2 (decide (a0 ≠ [48])) (some (0, false)) (Jei a0)) (Jei a0))))
def Jcl (a0 : (List UInt8)) (a1 : Int) (a2 : Bool) : Option (Int × Bool) :=
 J2 a2 (Js (Wg a0 [45]) fun t14 =>
 Jca a0 a1 t14) (Jca a0 a1 a0)
def Z2  : Option ((List (Int × (List UInt8)))) :=
 some (mSet (mSet (mSet (mSet (mSet (mSet (mSet ([] : (List (Int × (List UInt8)))) 1 [98, 121, 116, 101]) 2 [97, 115, 99, 105, 105]) 3 [115, 104, 111, 114, 116]) 4 [108, 111, 110, 103]) 5 [114, 97, 116, 105, 111]) 7 [111, 112, 97, 113, 117, 101]) 9 [115, 105, 103, 110, 101, 100])
def Jha (x0 : (List UInt8)) (l : (List Int)) : Option ((List UInt8) × Bool) :=
 some ((Jaz l), (decide (x0 = [])))
def Jbv (next2 : (((List UInt8) × (List Int)) → Option ((List UInt8) × Bool))) (x0_3 : (List UInt8)) (l_3 : (List Int)) : Option ((List UInt8) × Bool) :=
 J2 (decide (2 ≤ (x0_3.length : Int))) (Js (Xy x0_3 0) fun t13 =>
 Js (Jv [48, 49, 50, 51, 52, 53, 54, 55, 56, 57, 97, 98, 99, 100, 101, 102] t13) fun t14 =>
 Js (Xy x0_3 1) fun t16 =>
 Js (Jv [48, 49, 50, 51, 52, 53, 54, 55, 56, 57, 97, 98, 99, 100, 101, 102] t16) fun t17 =>
 J2 (decide (t14 < 0)) (some ([], false)) (J2 (decide (t17 < 0)) (some ([], false)) (Js (gI (16 * t14)) fun t26 =>
 Js (gI (t26 + t17)) fun t28 =>
 Js (Wz 1 l_3 ([(wU8 t28)] : List Int)) fun l31 =>
 Js (Xx x0_3 2 x0_3.length) fun t11 =>
 next2 (t11, l31)))) (Jha x0_3 l_3)
def Jej (a0 : (List UInt8)) : Option ((List UInt8) × Bool) :=
 Yz (fun next2 s => Jbv next2 s.1 s.2) (a0, ([] : List Int))
def Xt (m : Int) (x7 : Bool) (m_2 : (List UInt8)) (l : (List Int)) (l_2 : (List Tc)) : Option (Tb × Int) :=
 J2 (!x7) (some ((⟨0, [], ([] : List Int), ([] : List Tc), ([] : List Ta)⟩ : Tb), 8)) (Js (Jac (⟨m, m_2, l, l_2, ([] : (List Ta))⟩ : Tb)) fun t148 =>
 J2 (decide (t148 ≠ 0)) (some ((⟨0, [], ([] : List Int), ([] : List Tc), ([] : List Ta)⟩ : Tb), t148)) (some ((⟨m, m_2, l, l_2, ([] : List Ta)⟩ : Tb), 0)))
def V9 (x105_2 : Int) (l_4 : (List Tc)) (next4 : ((Bool × Int × (List Tc)) → Option (Tb × Int))) (t117 : (Int × Bool)) (t122 : (Int × Bool)) (x7_4 : Bool) : Option (Tb × Int) :=
 Js (Wz 16 l_4 ([(⟨t117.1, t122.1⟩ : Tc)] : List Tc)) fun l141 =>
 Js (gI (x105_2 + 1)) fun t143 =>
 next4 (x7_4, t143, l141)
def Zu (m : Int) (t44 : (List (List UInt8))) (next4 : ((Bool × Int × (List Tc)) → Option (Tb × Int))) (x7_3 : Bool) (x105_2 : Int) (l_4 : (List Tc)) : Option (Tb × Int) :=
 J2 (decide (x105_2 < (t44.length : Int))) (Js (Yv t44 x105_2) fun t107 =>
 Js (Ym t107 [47]) fun t111 =>
 Js (Jcl t111.1 10 false) fun t117 =>
 Js (Jcl t111.2.1 10 false) fun t122 =>
 J2 x7_3 (J2 t111.2.2 (J2 t117.2 (V9 x105_2 l_4 next4 t117 t122 t122.2) (V9 x105_2 l_4 next4 t117 t122 false)) (V9 x105_2 l_4 next4 t117 t122 false)) (V9 x105_2 l_4 next4 t117 t122 false)) (Xt m x7_3 [] ([] : List Int) l_4)
def Ja9 (x52_2 : Int) (l_6 : (List Int)) (next6 : ((Bool × Int × (List Int)) → Option (Tb × Int))) (t61 : (Int × Bool)) (x7_7 : Bool) : Option (Tb × Int) :=
 Js (Wz 8 l_6 ([t61.1] : List Int)) fun l72 =>
 Js (gI (x52_2 + 1)) fun t74 =>
 next6 (x7_7, t74, l72)
def Zw (m : Int) (t44 : (List (List UInt8))) (next6 : ((Bool × Int × (List Int)) → Option (Tb × Int))) (x7_6 : Bool) (x52_2 : Int) (l_6 : (List Int)) : Option (Tb × Int) :=
 J2 (decide (x52_2 < (t44.length : Int))) (Js (Yv t44 x52_2) fun t54 =>
 Js (Jcl t54 10 (decide (m = 9))) fun t61 =>
 J2 x7_6 (Ja9 x52_2 l_6 next6 t61 t61.2) (Ja9 x52_2 l_6 next6 t61 false)) (Xt m x7_6 [] l_6 ([] : List Tc))
def Wk (m : Int) (t44 : (List (List UInt8))) (x75 : Bool) : Option (Tb × Int) :=
 J2 x75 (J2 (decide (0 < (t44.length : Int))) (Js (Yv t44 0) fun t83 =>
 Js (Jej t83) fun t85 =>
 J2 t85.2 (J2 (decide ((t44.length : Int) = 1)) (Js (Yv t44 0) fun t97 =>
 Xt m (decide (t97 ≠ [])) t85.1 ([] : List Int) ([] : List Tc)) (Xt m false t85.1 ([] : List Int) ([] : List Tc))) (Xt m false t85.1 ([] : List Int) ([] : List Tc))) (Xt m (decide (0 < m)) [] ([] : List Int) ([] : List Tc))) (J2 (decide (m = 5)) (Yz (fun next4 s => Zu m t44 next4 s.1 s.2.1 s.2.2) ((decide (0 < m)), 0, ([] : List Tc))) (Yz (fun next6 s => Zw m t44 next6 s.1 s.2.1 s.2.2) ((decide (0 < m)), 0, ([] : List Int))))
def Ja5 (t28 : ((List (List UInt8)))) (m : Int) : Option (Tb × Int) :=
 Js (Xx t28 1 t28.length) fun t44 =>
 J2 (decide (m = 2)) (Wk m t44 (decide (m = 2))) (Wk m t44 (decide (m = 7)))
def Uk (t28 : ((List (List UInt8)))) (next8 : ((Int × (List (Int × (List UInt8)))) → Option (Tb × Int))) (m_4 : Int) (rs_2 : (List (Int × (List UInt8)))) : Option (Tb × Int) :=
 J2 (!rs_2.isEmpty) (gAll rs_2 fun pe rs_3 =>
 Js (Yv t28 0) fun t38 =>
 J2 (decide (pe.2 = t38)) (next8 (pe.1, rs_3)) (next8 (m_4, rs_3))) (Ja5 t28 m_4)
def Jdo (a0 : (List UInt8)) : Option (Tb × Int) :=
 J2 (decide (1000000 < (a0.length : Int))) (some ((⟨0, [], ([] : List Int), ([] : List Tc), ([] : List Ta)⟩ : Tb), 4)) (Js (Vx a0 [32]) fun t28 =>
 Js (Z2) fun t29 =>
 Yz (fun next8 s => Uk t28 next8 s.1 s.2) (0, t29))
def W6 (e : Ta) (l : List Ta) : Ta := ⟨e.Tag, ⟨e.Value.kad, e.Value.kae, e.Value.kaf, e.Value.kac, l⟩⟩
def fits : Nat → List Ta → Prop
 | 0, _ => False
 | d + 1, xs => xs.length ≤ 1000000 ∧ ∀ x ∈ xs, x.Value.kaf.length ≤ 2000000 ∧ x.Value.kac.length ≤ 2000000 ∧ fits d x.Value.kab
def fitV (d : Nat) (x : Tb) : Prop := x.kaf.length ≤ 2000000 ∧ x.kac.length ≤ 2000000 ∧ fits d x.kab
def fitF (d : Nat) (f : Td) : Prop := f.kag.length ≤ 1000000 ∧ ∀ l ∈ f.kag, fits d l
def noF : Td := ⟨false, []⟩
structure TxR where
 big : Bool
 dirs : List (List Ta)
 op : List Ta
def Jf3 (r : TxR) (e : Ta) : Option TxR :=
 J2 (decide (0 < (r.op.length : Int))) (Js (gI ((r.op.length : Int) - 1)) fun q => Js (Yv r.op q) fun x => Js (Wz 104 x.Value.kab [e]) fun zs => Js (gSet r.op q (W6 x zs)) fun op => some ⟨r.big, r.dirs, op⟩)
  (Js (gI ((r.dirs.length : Int) - 1)) fun q => Js (Yv r.dirs q) fun l => Js (Wz 104 l [e]) fun zs => Js (gSet r.dirs q zs) fun ds => some ⟨r.big, ds, r.op⟩)
def Jfd (r : TxR) (tag : Int) (s : List UInt8) : Option (Int × TxR) :=
 Js (Vu s) fun v => J2 (decide (v.2 = 0)) (Js (Jf3 r ⟨tag, v.1⟩) fun r' => some (v.2, r')) (some (v.2, r))
def Ja8 (r : TxR) (s : List UInt8) : Option (Int × TxR) :=
 Js (gI ((r.op.length : Int) + 1)) fun n1 => Js (gRep [32, 32] n1) fun t => Js (W9 s t) fun q => Js (Ym q.1 [32]) fun c => Js (Zh c.1 false) fun p =>
  J2 (!q.2 || (!c.2.2 || (!p.2 || decide ((r.dirs.length : Int) = 0)))) (some (8, r))
   (J2 (decide (c.2.1 = [123])) (Js (Wz 104 r.op [⟨p.1, ⟨13, [], [], [], []⟩⟩]) fun op => some (0, ⟨r.big, r.dirs, op⟩)) (Jfd r p.1 c.2.1))
def tx_shut (r : TxR) : Option (Int × TxR) :=
 Js (gI ((r.op.length : Int) - 1)) fun q => Js (Yv r.op q) fun e => Js (Xx r.op 0 q) fun op => Js (Jf3 ⟨r.big, r.dirs, op⟩ e) fun r' => some (0, r')
def Jew (r : TxR) (s : List UInt8) : Option (Int × TxR) :=
 Js (J2 (decide (0 < (r.op.length : Int))) (Js (gRep [32, 32] r.op.length) fun t => Js (Xh t [125]) fun u => some (decide (s = u))) (some false)) fun shut => J2 shut (tx_shut r) (Ja8 r s)
def Zd (r : TxR) (s : List UInt8) : Option (Int × TxR) :=
 J2 (decide (s = [100, 105, 114]) && decide ((r.op.length : Int) = 0)) (Js (Wz 24 r.dirs [[]]) fun ds => some (0, ⟨r.big, ds, r.op⟩)) (Jew r s)
def Wi (next : (List UInt8) × Int × TxR → Option (Td × Int × Int)) : (List UInt8) × Int × TxR → Option (Td × Int × Int) := fun x =>
 J2 (decide (x.1 ≠ [])) (Js (Ym x.1 [10]) fun c => Js (gI (x.2.1 + 1)) fun n =>
   Js (J2 (!c.2.2 || (decide (n = 1) && (decide (c.1 ≠ [98, 105, 103]) && decide (c.1 ≠ [108, 105, 116, 116, 108, 101])))) (some (8, x.2.2))
    (J2 (decide (n = 1)) (some (0, ⟨decide (c.1 = [98, 105, 103]), x.2.2.dirs, x.2.2.op⟩)) (Zd x.2.2 c.1))) fun q =>
   J2 (decide (q.1 ≠ 0)) (some (noF, n, q.1)) (next (c.2.1, n, q.2)))
  (J2 (decide (x.2.1 = 0) || decide (0 < (x.2.2.op.length : Int))) (Js (gI (x.2.1 + 1)) fun n => some (noF, n, 8))
   (Js (Jc1 ⟨x.2.2.big, x.2.2.dirs⟩) fun c => J2 (decide (c ≠ 0)) (some (noF, 0, c)) (open Classical in if fitF 8 ⟨x.2.2.big, x.2.2.dirs⟩ then some (⟨x.2.2.big, x.2.2.dirs⟩, 0, 0) else none)))
def U6 (s : List UInt8) : Option (Td × Int × Int) :=
 J2 (decide (1000000 < (s.length : Int))) (some (noF, 0, 4)) (Yz Wi (s, 0, ⟨false, [], []⟩))
def U3 (a0 : (List UInt8)) (next1 : (((List UInt8) × Int) → Option ((List UInt8)))) (x3_2 : (List UInt8)) (x7_2 : Int) : Option ((List UInt8)) :=
 J2 (decide (x7_2 < (a0.length : Int))) (Js (Xy a0 x7_2) fun t13 =>
 Js (gShr 8 t13 4) fun t14 =>
 Js (Xy a0 x7_2) fun t17 =>
 Js (gShr 8 t17 4) fun t18 =>
 Js (Xx [48, 49, 50, 51, 52, 53, 54, 55, 56, 57, 97, 98, 99, 100, 101, 102] t14 (wU8 (t18 + 1))) fun t20 =>
 Js (Xy a0 x7_2) fun t23 =>
 Js (Xy a0 x7_2) fun t27 =>
 Js (Xx [48, 49, 50, 51, 52, 53, 54, 55, 56, 57, 97, 98, 99, 100, 101, 102] (wU8 (bAnd 8 t23 15)) (wU8 ((wU8 (bAnd 8 t27 15)) + 1))) fun t30 =>
 Js (Xh t20 t30) fun t31 =>
 Js (Xh x3_2 t31) fun t32 =>
 Js (gI (x7_2 + 1)) fun t33 =>
 next1 (t32, t33)) (some x3_2)
def Jh8 (a0 : (List UInt8)) : Option ((List UInt8)) :=
 Yz (fun next1 s => U3 a0 next1 s.1 s.2) ([], 0)
def V3 (l_3 : (List (List UInt8))) : Option ((List UInt8)) :=
 Js (Jev l_3 [32]) fun t55 =>
 some t55
def Zl (a0 : Tb) (next4 : ((Int × (List (List UInt8))) → Option ((List UInt8)))) (x38_2 : Int) (l_5 : (List (List UInt8))) : Option ((List UInt8)) :=
 J2 (decide (x38_2 < (a0.kac.length : Int))) (Js (Yv a0.kac x38_2) fun t40 =>
 Js (Y8 t40.Num) fun t45 =>
 Js (Xh t45 [47]) fun t46 =>
 Js (Y8 t40.Den) fun t49 =>
 Js (Xh t46 t49) fun t50 =>
 Js (Wz 16 l_5 ([t50] : List (List UInt8))) fun l52 =>
 Js (gI (x38_2 + 1)) fun t53 =>
 next4 (t53, l52)) (V3 l_5)
def V2 (a0 : Tb) (l_2 : (List (List UInt8))) : Option ((List UInt8)) :=
 Yz (fun next4 s => Zl a0 next4 s.1 s.2) (0, l_2)
def Zn (a0 : Tb) (next5 : ((Int × (List (List UInt8))) → Option ((List UInt8)))) (x25_2 : Int) (l_7 : (List (List UInt8))) : Option ((List UInt8)) :=
 J2 (decide (x25_2 < (a0.kaf.length : Int))) (Js (Yv a0.kaf x25_2) fun t27 =>
 Js (Y8 t27) fun t31 =>
 Js (Wz 16 l_7 ([t31] : List (List UInt8))) fun l33 =>
 Js (gI (x25_2 + 1)) fun t34 =>
 next5 (t34, l33)) (V2 a0 l_7)
def Uu (a0 : Tb) (l : (List (List UInt8))) : Option ((List UInt8)) :=
 Yz (fun next5 s => Zn a0 next5 s.1 s.2) (0, l)
def Jar (a0 : Tb) : Option ((List UInt8)) :=
 Js (Z2) fun t8 =>
 J2 (decide (a0.kae ≠ [])) (Js (Jh8 a0.kae) fun t19 =>
 Js (Wz 16 ([((mGet t8 a0.kad).getD [])] : List (List UInt8)) ([t19] : List (List UInt8))) fun l21 =>
 Uu a0 l21) (Uu a0 ([((mGet t8 a0.kad).getD [])] : List (List UInt8)))
def Jcs (x13_2 : Int) (next1 : (((List UInt8) × Int) → Option ((List UInt8)))) (x5_3 : (List UInt8)) : Option ((List UInt8)) :=
 Js (gI (x13_2 + 1)) fun t47 =>
 next1 (x5_3, t47)
def Wy (a0 : (List Ta)) (a1 : Int) (self : ((List Ta) × Int) → Option ((List UInt8))) (t10 : ((List UInt8))) (next1 : (((List UInt8) × Int) → Option ((List UInt8)))) (x5_2 : (List UInt8)) (x13_2 : Int) : Option ((List UInt8)) :=
 J2 (decide (x13_2 < (a0.length : Int))) (Js (Yv a0 x13_2) fun t15 =>
 Js (Y8 t15.Tag) fun t21 =>
 Js (Xh t10 t21) fun t22 =>
 Js (Xh t22 [32]) fun t23 =>
 Js (Xh x5_2 t23) fun t24 =>
 J2 (decide (t15.Value.kad = 13)) (Js (gI (a1 + 1)) fun t34 =>
 Js (self (t15.Value.kab, t34)) fun t35 =>
 Js (Xh [123, 10] t35) fun t36 =>
 Js (Xh t36 t10) fun t38 =>
 Js (Xh t38 [125, 10]) fun t39 =>
 Js (Xh t24 t39) fun t40 =>
 Jcs x13_2 next1 t40) (Js (Jar t15.Value) fun t44 =>
 Js (Xh t44 [10]) fun t45 =>
 Js (Xh t24 t45) fun t46 =>
 Jcs x13_2 next1 t46)) (some x5_2)
def Zv (self : ((List Ta) × Int) → Option ((List UInt8))) (a0 : (List Ta)) (a1 : Int) : Option ((List UInt8)) :=
 Js (gRep [32, 32] a1) fun t10 =>
 Yz (fun next1 s => Wy a0 a1 self t10 next1 s.1 s.2) ([], 0)
def Ji0 (a0 : (List Ta)) (a1 : Int) : Option ((List UInt8)) :=
 Yz (fun (self : ((List Ta) × Int) → Option ((List UInt8))) (s : (List Ta) × Int) => Zv self s.1 s.2) (a0, a1)
def Vy (a0 : Td) (next2 : (((List UInt8) × Int) → Option ((List UInt8)))) (x3_3 : (List UInt8)) (x11_2 : Int) : Option ((List UInt8)) :=
 J2 (decide (x11_2 < (a0.kag.length : Int))) (Js (Yv a0.kag x11_2) fun t13 =>
 Js (Ji0 t13 1) fun t17 =>
 Js (Xh [100, 105, 114, 10] t17) fun t18 =>
 Js (Xh x3_3 t18) fun t19 =>
 Js (gI (x11_2 + 1)) fun t20 =>
 next2 (t19, t20)) (some x3_3)
def Jby (a0 : Td) (x3 : (List UInt8)) : Option ((List UInt8)) :=
 Yz (fun next2 s => Vy a0 next2 s.1 s.2) (x3, 0)
def Jf0 (a0 : Td) : Option ((List UInt8)) :=
 J2 a0.Big (Jby a0 [98, 105, 103, 10]) (Jby a0 [108, 105, 116, 116, 108, 101, 10])
def Jho (m : (List UInt8)) : Option ((List UInt8)) :=
 some m
def Ja6 (a0 : (List UInt8)) (next2 : ((Int × (List UInt8)) → Option ((List UInt8)))) (x7_2 : Int) (m_3 : (List UInt8)) : Option ((List UInt8)) :=
 J2 (decide (x7_2 < (a0.length : Int))) (Js (Xy a0 x7_2) fun t12 =>
 Js (gShr 8 t12 4) fun t13 =>
 Js (Xy [48, 49, 50, 51, 52, 53, 54, 55, 56, 57, 97, 98, 99, 100, 101, 102] t13) fun t14 =>
 Js (gBldB m_3 t14) fun t15 =>
 Js (Xy a0 x7_2) fun t18 =>
 Js (Xy [48, 49, 50, 51, 52, 53, 54, 55, 56, 57, 97, 98, 99, 100, 101, 102] (wU8 (bAnd 8 t18 15))) fun t20 =>
 Js (gBldB t15 t20) fun t21 =>
 Js (gI (x7_2 + 1)) fun t22 =>
 next2 (t22, t21)) (Jho m_3)
def Jji (a0 : (List UInt8)) : Option ((List UInt8)) :=
 Yz (fun next2 s => Ja6 a0 next2 s.1 s.2) (0, [])
def V7 (l_3 : (List (List UInt8))) : Option ((List UInt8)) :=
 Js (Jev l_3 [32]) fun t54 =>
 some t54
def Z7 (a0 : Tb) (l_2 : (List (List UInt8))) : Option ((List UInt8)) :=
 J2 (decide (a0.kae ≠ [])) (Js (Jji a0.kae) fun t50 =>
 Js (Wz 16 l_2 ([t50] : List (List UInt8))) fun l52 =>
 V7 l52) (V7 l_2)
def Zo (a0 : Tb) (next4 : ((Int × (List (List UInt8))) → Option ((List UInt8)))) (x28_2 : Int) (l_5 : (List (List UInt8))) : Option ((List UInt8)) :=
 J2 (decide (x28_2 < (a0.kac.length : Int))) (Js (Yv a0.kac x28_2) fun t30 =>
 Js (Y8 t30.Num) fun t35 =>
 Js (Xh t35 [47]) fun t36 =>
 Js (Y8 t30.Den) fun t39 =>
 Js (Xh t36 t39) fun t40 =>
 Js (Wz 16 l_5 ([t40] : List (List UInt8))) fun l42 =>
 Js (gI (x28_2 + 1)) fun t43 =>
 next4 (t43, l42)) (Z7 a0 l_5)
def V5 (a0 : Tb) (l : (List (List UInt8))) : Option ((List UInt8)) :=
 Yz (fun next4 s => Zo a0 next4 s.1 s.2) (0, l)
def Yt (a0 : Tb) (next5 : ((Int × (List (List UInt8))) → Option ((List UInt8)))) (x15_2 : Int) (l_7 : (List (List UInt8))) : Option ((List UInt8)) :=
 J2 (decide (x15_2 < (a0.kaf.length : Int))) (Js (Yv a0.kaf x15_2) fun t17 =>
 Js (Y8 t17) fun t21 =>
 Js (Wz 16 l_7 ([t21] : List (List UInt8))) fun l23 =>
 Js (gI (x15_2 + 1)) fun t24 =>
 next5 (t24, l23)) (V5 a0 l_7)
def Ue (a0 : Tb) : Option ((List UInt8)) :=
 Js (Jgh a0.kad) fun t10 =>
 Yz (fun next5 s => Yt a0 next5 s.1 s.2) (0, ([t10] : List (List UInt8)))
def Jbe (x10_2 : Int) (next1 : ((Int × (List UInt8)) → Option ((List UInt8)))) (m_3 : (List UInt8)) : Option ((List UInt8)) :=
 Js (gI (x10_2 + 1)) fun t45 =>
 next1 (t45, m_3)
def Vf (a1 : (List Ta)) (a2 : (List UInt8)) (self : ((List UInt8) × (List Ta) × (List UInt8)) → Option ((List UInt8))) (next1 : ((Int × (List UInt8)) → Option ((List UInt8)))) (x10_2 : Int) (m_2 : (List UInt8)) : Option ((List UInt8)) :=
 J2 (decide (x10_2 < (a1.length : Int))) (Js (Yv a1 x10_2) fun t12 =>
 Js (Y8 t12.Tag) fun t18 =>
 Js (Xh a2 t18) fun t19 =>
 Js (Xh t19 [32]) fun t20 =>
 Js (gBld m_2 t20) fun t21 =>
 J2 (decide (t12.Value.kad ≠ 13)) (Js (Ue t12.Value) fun t29 =>
 Js (Xh t29 [10]) fun t30 =>
 Js (gBld t21 t30) fun t31 =>
 Jbe x10_2 next1 t31) (Js (gBld t21 [123, 10]) fun t33 =>
 Js (Xh a2 [32, 32]) fun t39 =>
 Js (self (t33, t12.Value.kab, t39)) fun t40 =>
 Js (Xh a2 [125, 10]) fun t43 =>
 Js (gBld t40 t43) fun t44 =>
 Jbe x10_2 next1 t44)) (some m_2)
def Yu (self : ((List UInt8) × (List Ta) × (List UInt8)) → Option ((List UInt8))) (a0 : (List UInt8)) (a1 : (List Ta)) (a2 : (List UInt8)) : Option ((List UInt8)) :=
 Yz (fun next1 s => Vf a1 a2 self next1 s.1 s.2) (0, a0)
def Jgg (a0 : (List UInt8)) (a1 : (List Ta)) (a2 : (List UInt8)) : Option ((List UInt8)) :=
 Yz (fun (self : ((List UInt8) × (List Ta) × (List UInt8)) → Option ((List UInt8))) (s : (List UInt8) × (List Ta) × (List UInt8)) => Yu self s.1 s.2.1 s.2.2) (a0, a1, a2)
def Jcg (m_2 : (List UInt8)) : Option ((List UInt8) × Int) :=
 J2 (decide (1000000 < (m_2.length : Int))) (some ([], 4)) (some (m_2, 0))
def U0 (a0 : Td) (next3 : ((Int × (List UInt8)) → Option ((List UInt8) × Int))) (x20_2 : Int) (m_4 : (List UInt8)) : Option ((List UInt8) × Int) :=
 J2 (decide (x20_2 < (a0.kag.length : Int))) (Js (Yv a0.kag x20_2) fun t22 =>
 Js (gBld m_4 [100, 105, 114, 10]) fun t24 =>
 Js (Jgg t24 t22 [32, 32]) fun t26 =>
 Js (gI (x20_2 + 1)) fun t27 =>
 next3 (t27, t26)) (Jcg m_4)
def Jdl (a0 : Td) (m : (List UInt8)) : Option ((List UInt8) × Int) :=
 Yz (fun next3 s => U0 a0 next3 s.1 s.2) (0, m)
def Jek (a0 : Td) : Option ((List UInt8) × Int) :=
 Js (Jc1 a0) fun t9 =>
 J2 (decide (t9 ≠ 0)) (some ([], t9)) (J2 a0.Big (Js (gBld [] [98, 105, 103, 10]) fun t15 =>
 Jdl a0 t15) (Js (gBld [] [108, 105, 116, 116, 108, 101, 10]) fun t16 =>
 Jdl a0 t16))
def Wj (a0 : (List UInt8)) (a1 : Int) (a3 : Int) (x2 : (List UInt8)) : Option (Bool) :=
 J2 (decide (a0 = x2)) (some (decide (a1 = a3))) (some false)
def Jb2 (a0 : (List UInt8)) (a1 : Int) (a2 : (List UInt8)) (a3 : Int) : Option (Bool) :=
 J2 (decide (a3 ≠ 0)) (Wj a0 a1 a3 []) (Wj a0 a1 a3 a2)
def Jjm (lines : List (List UInt8)) (at_ deep : Int) (room : List UInt8) : Option Bool :=
 Js (J2 (decide (deep = 1)) (Js (Yv lines at_) fun s => some (decide (s = [100, 105, 114]))) (some false)) fun a =>
  J2 a (some true) (J2 (decide (1 < deep)) (Js (Yv lines at_) fun s => Js (Xx room 2 room.length) fun r => Js (Xh r [125]) fun u => some (decide (s = u))) (some false))
abbrev RtA := List Ta × Int × Int
def Jgs (lines : List (List UInt8)) (deep tag : Int) (self : Int × Int → Option RtA) (next : Int × List Ta → Option RtA) (at_ : Int) (l : List Ta) : Option RtA :=
 Js (gI (at_ + 1)) fun a1 => Js (gI (deep + 1)) fun d1 => Js (self (a1, d1)) fun r => J2 (decide (r.2.1 ≠ 0)) (some ([], r.2.1, r.2.2)) (J2 (decide (r.2.2 = (lines.length : Int))) (some ([], 8, r.2.2)) (Js (Wz 104 l [⟨tag, ⟨13, [], [], [], r.1⟩⟩]) fun l' => Js (gI (r.2.2 + 1)) fun a2 => next (a2, l')))
def Jfe (tag : Int) (next : Int × List Ta → Option RtA) (at_ : Int) (l : List Ta) (b : List UInt8) : Option RtA :=
 Js (Jdo b) fun v => J2 (decide (v.2 ≠ 0)) (some ([], v.2, at_)) (J2 v.1.kab.isEmpty (Js (Wz 104 l [⟨tag, v.1⟩]) fun l' => Js (gI (at_ + 1)) fun a2 => next (a2, l')) none)
def Jad (lines : List (List UInt8)) (deep : Int) (room : List UInt8) (self : Int × Int → Option RtA) (next : Int × List Ta → Option RtA) (x : Int × List Ta) : Option RtA :=
 J2 (decide (x.1 < (lines.length : Int))) (Js (Yv lines x.1) fun s => Js (W9 s room) fun q => Js (Jjm lines x.1 deep room) fun e => J2 e (some (x.2, 0, x.1)) (Js (Ym q.1 [32]) fun c => Js (Jcl c.1 10 false) fun p =>
   J2 (!q.2 || (!c.2.2 || !p.2)) (some ([], 8, x.1)) (J2 (decide (c.2.1 = [123])) (Jgs lines deep p.1 self next x.1 x.2) (Jfe p.1 next x.1 x.2 c.2.1))))
  (some (x.2, 0, x.1))
def Y4 (lines : List (List UInt8)) (self : Int × Int → Option RtA) (a : Int × Int) : Option RtA := Js (gRep [32, 32] a.2) fun room => Yz (Jad lines a.2 room self) (a.1, [])
def Jen (lines : List (List UInt8)) (a : Int × Int) : Option RtA := Yz (Y4 lines) a
def Jd5 (lines : List (List UInt8)) (big : Bool) (next : Int × List (List Ta) → Option (Td × Int × Int)) (x : Int × List (List Ta)) : Option (Td × Int × Int) :=
 J2 (decide (x.1 < (lines.length : Int))) (Js (Yv lines x.1) fun s => J2 (decide (s ≠ [100, 105, 114])) (Js (gI (x.1 + 1)) fun n => some (noF, n, 8)) (Js (gI (x.1 + 1)) fun a => Js (Jen lines (a, 1)) fun r => J2 (decide (r.2.1 ≠ 0)) (Js (gI (r.2.2 + 1)) fun n => some (noF, n, r.2.1)) (Js (Wz 24 x.2 [r.1]) fun ds => next (r.2.2, ds))))
  (Js (Uy ⟨big, x.2⟩) fun e => J2 (decide (e ≠ 0)) (some (noF, 0, e)) (some (⟨big, x.2⟩, 0, 0)))
def Jdh (lines : List (List UInt8)) : Option (Td × Int × Int) :=
 J2 (decide ((lines.length : Int) = 0)) (some (noF, 1, 8)) (Js (Yv lines 0) fun h => J2 (decide (h ≠ [108, 105, 116, 116, 108, 101]) && decide (h ≠ [98, 105, 103])) (some (noF, 1, 8)) (Yz (Jd5 lines (decide (h = [98, 105, 103]))) (1, [])))
def V8 (s : List UInt8) : Option (Td × Int × Int) :=
 J2 (decide (1000000 < (s.length : Int))) (some (noF, 0, 4)) (Js (Vx s [10]) fun ls => Js (gI ((ls.length : Int) - 1)) fun q => Js (Yv ls q) fun last => Js (Xx ls 0 q) fun l0 => Js (J2 (decide (last ≠ [])) (Js (Xh last [0]) fun u => Wz 16 l0 [u]) (some l0)) fun lines => Jdh lines)
def Jt (a0 : (List (List Ta))) (a1 : (List (List Ta))) (a2 : ((List Ta) → (List Ta) → Option (Bool))) (next1 : ((Int) → Option (Bool))) (x17_2 : Int) : Option (Bool) :=
 J2 (decide (x17_2 < (a0.length : Int))) (Js (Yv a0 x17_2) fun t20 =>
 Js (Yv a1 x17_2) fun t24 =>
 Js (a2 t20 t24) fun t29 =>
 J2 (!t29) (some false) (Js (gI (x17_2 + 1)) fun t31 =>
 next1 t31)) (some true)
def Q6 (a0 : (List (List Ta))) (a1 : (List (List Ta))) (a2 : ((List Ta) → (List Ta) → Option (Bool))) : Option (Bool) :=
 J2 (decide ((a0.length : Int) ≠ (a1.length : Int))) (some false) (Yz (fun next1 s => Jt a0 a1 a2 next1 s) 0)
def J5 (a0 : (List Ta)) (a1 : (List Ta)) (a2 : (Ta → Ta → Option (Bool))) (next1 : ((Int) → Option (Bool))) (x17_2 : Int) : Option (Bool) :=
 J2 (decide (x17_2 < (a0.length : Int))) (Js (Yv a0 x17_2) fun t20 =>
 Js (Yv a1 x17_2) fun t24 =>
 Js (a2 t20 t24) fun t29 =>
 J2 (!t29) (some false) (Js (gI (x17_2 + 1)) fun t31 =>
 next1 t31)) (some true)
def Q5 (a0 : (List Ta)) (a1 : (List Ta)) (a2 : (Ta → Ta → Option (Bool))) : Option (Bool) :=
 J2 (decide ((a0.length : Int) ≠ (a1.length : Int))) (some false) (Yz (fun next1 s => J5 a0 a1 a2 next1 s) 0)
def Y2 (a0 : (List Int)) (a1 : (List Int)) (next1 : ((Int) → Option (Bool))) (x13_2 : Int) : Option (Bool) :=
 J2 (decide (x13_2 < (a0.length : Int))) (Js (Yv a0 x13_2) fun t18 =>
 Js (Yv a1 x13_2) fun t22 =>
 J2 (decide (t18 ≠ t22)) (some false) (Js (gI (x13_2 + 1)) fun t25 =>
 next1 t25)) (some true)
def Jbj (a0 : (List Int)) (a1 : (List Int)) : Option (Bool) :=
 J2 (decide ((a0.length : Int) ≠ (a1.length : Int))) (some false) (Yz (fun next1 s => Y2 a0 a1 next1 s) 0)
def Xq (a0 : (List Tc)) (a1 : (List Tc)) (next1 : ((Int) → Option (Bool))) (x13_2 : Int) : Option (Bool) :=
 J2 (decide (x13_2 < (a0.length : Int))) (Js (Yv a0 x13_2) fun t18 =>
 Js (Yv a1 x13_2) fun t22 =>
 J2 (!(Jcj t18 t22)) (some false) (Js (gI (x13_2 + 1)) fun t25 =>
 next1 t25)) (some true)
def Vs (a0 : (List Tc)) (a1 : (List Tc)) : Option (Bool) :=
 J2 (decide ((a0.length : Int) ≠ (a1.length : Int))) (some false) (Yz (fun next1 s => Xq a0 a1 next1 s) 0)
def Jc7 (self : ((List Ta) × (List Ta)) → Option (Bool)) (a0 : Tb) (a1 : Tb) : Option (Bool) :=
 J2 (decide (a0.kad = a1.kad)) (J2 (decide (a0.kae = a1.kae)) (Js (Jbj a0.kaf a1.kaf) fun t22 =>
 J2 t22 (Js (Vs a0.kac a1.kac) fun t29 =>
 J2 t29 (Js (self (a0.kab, a1.kab)) fun t36 =>
 some t36) (some false)) (some false)) (some false)) (some false)
def Jc4 (self : ((List Ta) × (List Ta)) → Option (Bool)) (a0 : Ta) (a1 : Ta) : Option (Bool) :=
 J2 (decide (a0.Tag = a1.Tag)) (Js (Jc7 self a0.Value a1.Value) fun t15 =>
 some t15) (some false)
def Xz (self : ((List Ta) × (List Ta)) → Option (Bool)) (a0 : (List Ta)) (a1 : (List Ta)) : Option (Bool) :=
 Js (Q5 a0 a1 (Jc4 self)) fun t7 =>
 some t7
def Jeb (a0 : (List Ta)) (a1 : (List Ta)) : Option (Bool) :=
 Yz (fun (self : ((List Ta) × (List Ta)) → Option (Bool)) (s : (List Ta) × (List Ta)) => Xz self s.1 s.2) (a0, a1)
def Jbf (a0 : Td) (a1 : Td) : Option (Bool) :=
 J2 (decide (a0.Big = a1.Big)) (Js (Q6 a0.kag a1.kag Jeb) fun t15 =>
 some t15) (some false)
def Jdr (a0 : Td) (a1 : Int) (a3 : Int) (m : Bool) (m_2 : (List (List Ta))) : Option (Bool) :=
 Js (Jbf a0 (⟨m, m_2⟩ : Td)) fun t14 =>
 J2 t14 (some (decide (a1 = a3))) (some false)
def Jgc (a0 : Td) (a1 : Int) (a2 : Td) (a3 : Int) : Option (Bool) :=
 J2 (decide (a3 ≠ 0)) (Jdr a0 a1 a3 false ([] : (List (List Ta)))) (Jdr a0 a1 a3 a2.Big a2.kag)
def Xs (a1 : (List UInt8)) (x6 : (List UInt8)) (next2 : ((Int) → Option (Bool))) (x41_2 : Int) : Option (Bool) :=
 J2 (decide (x41_2 < 2)) (Js (Yv ([a1, x6] : List (List UInt8)) x41_2) fun t43 =>
 Js (U6 t43) fun t47 =>
 Js (V8 t43) fun t53 =>
 J2 (decide (t47.2.1 ≠ t53.2.1)) (some false) (Js (Jgc t47.1 t47.2.2 t53.1 t53.2.2) fun t65 =>
 J2 (!t65) (some false) (Js (gI (x41_2 + 1)) fun t68 =>
 next2 t68))) (some true)
def Wu (a0 : Td) (a1 : (List UInt8)) (x5 : Int) (x6 : (List UInt8)) : Option (Bool) :=
 Js (Jek a0) fun t28 =>
 Js (Jb2 t28.1 t28.2 x6 x5) fun t35 =>
 J2 (!t35) (some false) (Yz (fun next2 s => Xs a1 x6 next2 s) 0)
def Jd2 (a0 : Td) (a1 : (List UInt8)) : Option (Bool) :=
 Js (Uy a0) fun t18 =>
 J2 (decide (t18 = 0)) (Js (Jf0 a0) fun t22 =>
 J2 (decide (1000000 < (t22.length : Int))) (Wu a0 a1 4 t22) (Wu a0 a1 t18 t22)) (Wu a0 a1 t18 [])
end
end Go.M

namespace Go.Proofs
open Go.Shelf
def Tryz.lays156_ren : Go.Shelf.Ren := ⟨fun | 156 => 82 | 165 => 78 | 166 => 20 | 169 => 23 | 240 => 43 | 241 => 123 | 276 => 83 | 277 => 163 | n => n, fun | 31 => 31 | 9 => 9 | 3 => 3 | 4 => 4 | 0 => 0 | 20 => 20 | 72 => 47 | 76 => 50 | 70 => 44 | 37 => 45 | 75 => 49 | 127 => 94 | 164 => 145 | 5 => 5 | 80 => 54 | n => n, fun | n => n⟩
theorem Tryz.lays156 : Go.Proofs.Lays.n156 Tryz.prog Tryz.lays156_ren := {
 mixed := by kernel_rfl
 f156 := Tryz.func82.trans (congrArg some (by kernel_rfl))
 f165 := Tryz.func78.trans (congrArg some (by kernel_rfl))
 f166 := Tryz.func20.trans (congrArg some (by kernel_rfl))
 f169 := Tryz.func23.trans (congrArg some (by kernel_rfl))
 f240 := Tryz.func43.trans (congrArg some (by kernel_rfl))
 f241 := Tryz.func123.trans (congrArg some (by kernel_rfl))
 f276 := Tryz.func83.trans (congrArg some (by kernel_rfl))
 f277 := Tryz.func163.trans (congrArg some (by kernel_rfl))
 t0 := Tryz.underlying0
 a0 := Tryz.isAgg0
 z0 := Tryz.sizeOf0
 v0 := Tryz.zeroValue0
 t3 := Tryz.underlying3
 a3 := Tryz.isAgg3
 z3 := Tryz.sizeOf3
 v3 := Tryz.zeroValue3
 t4 := Tryz.underlying4
 a4 := Tryz.isAgg4
 z4 := Tryz.sizeOf4
 v4 := Tryz.zeroValue4
 t9 := Tryz.underlying9
 a9 := Tryz.isAgg9
 z9 := Tryz.sizeOf9
 v9 := Tryz.zeroValue9
 t20 := Tryz.underlying20
 a20 := Tryz.isAgg20
 z20 := Tryz.sizeOf20
 v20 := Tryz.zeroValue20
 t31 := Tryz.underlying31
 a31 := Tryz.isAgg31
 z31 := Tryz.sizeOf31
 v31 := Tryz.zeroValue31
 t37 := Tryz.underlying45
 a37 := Tryz.isAgg45
 z37 := Tryz.sizeOf45
 v37 := Tryz.zeroValue45
 t70 := Tryz.underlying44
 a70 := Tryz.isAgg44
 z70 := Tryz.sizeOf44
 v70 := Tryz.zeroValue44
 t72 := Tryz.underlying47
 a72 := Tryz.isAgg47
 z72 := Tryz.sizeOf47
 v72 := Tryz.zeroValue47
 t75 := Tryz.underlying49
 a75 := Tryz.isAgg49
 z75 := Tryz.sizeOf49
 v75 := Tryz.zeroValue49
 t76 := Tryz.underlying50
 a76 := Tryz.isAgg50
 z76 := Tryz.sizeOf50
 v76 := Tryz.zeroValue50
 t127 := Tryz.underlying94
 a127 := Tryz.isAgg94
 z127 := Tryz.sizeOf94
 v127 := Tryz.zeroValue94
 t164 := Tryz.underlying145
 a164 := Tryz.isAgg145
 z164 := Tryz.sizeOf145
 v164 := Tryz.zeroValue145 }
theorem Tryz.Builder_Extra_156 : Builder.Extra Tryz.prog Tryz.lays156_ren := {
 sizeBuilder := by kernel_rfl
 liesBuilder := by kernel_rfl
 t5 := Tryz.underlying5
 a5 := Tryz.isAgg5
 z5 := Tryz.sizeOf5
 v5 := Tryz.zeroValue5
 infoByte := by kernel_rfl
 cellsByte := by kernel_rfl
 sizeByte := by kernel_rfl
 neB5 := by decide }
def Tryz.lays172_ren : Go.Shelf.Ren := ⟨fun | 172 => 90 | 244 => 137 | 245 => 138 | 247 => 172 | 279 => 173 | 280 => 174 | 281 => 175 | 282 => 176 | 287 => 190 | 316 => 191 | 171 => 41 | 205 => 192 | 321 => 197 | 322 => 198 | 243 => 79 | 246 => 124 | 283 => 164 | 284 => 165 | 285 => 166 | 286 => 167 | 129 => 160 | 317 => 184 | 318 => 185 | 319 => 186 | 320 => 187 | 337 => 194 | 338 => 195 | n => n, fun | 9 => 9 | 3 => 3 | 75 => 49 | 76 => 50 | 4 => 4 | 5 => 5 | 167 => 209 | 37 => 45 | 0 => 0 | 85 => 210 | 2 => 2 | 168 => 212 | 53 => 170 | 175 => 225 | 46 => 136 | 210 => 228 | 127 => 94 | 145 => 240 | 143 => 238 | 21 => 21 | 171 => 202 | 173 => 204 | 212 => 222 | 51 => 167 | 20 => 20 | 213 => 223 | 232 => 241 | 233 => 242 | 80 => 54 | n => n, fun | 15 => 2 | 16 => 3 | 17 => 1 | 18 => 6 | 19 => 7 | n => n⟩
theorem Tryz.lays172 : Go.Proofs.Lays.n172 Tryz.prog Tryz.lays172_ren := {
 mixed := by kernel_rfl
 f129 := Tryz.func160.trans (congrArg some (by kernel_rfl))
 f171 := Tryz.func41.trans (congrArg some (by kernel_rfl))
 f172 := Tryz.func90.trans (congrArg some (by kernel_rfl))
 f205 := Tryz.func192.trans (congrArg some (by kernel_rfl))
 f243 := Tryz.func79.trans (congrArg some (by kernel_rfl))
 f244 := Tryz.func137.trans (congrArg some (by kernel_rfl))
 f245 := Tryz.func138.trans (congrArg some (by kernel_rfl))
 f246 := Tryz.func124.trans (congrArg some (by kernel_rfl))
 f247 := Tryz.func172.trans (congrArg some (by kernel_rfl))
 f279 := Tryz.func173.trans (congrArg some (by kernel_rfl))
 f280 := Tryz.func174.trans (congrArg some (by kernel_rfl))
 f281 := Tryz.func175.trans (congrArg some (by kernel_rfl))
 f282 := Tryz.func176.trans (congrArg some (by kernel_rfl))
 f283 := Tryz.func164.trans (congrArg some (by kernel_rfl))
 f284 := Tryz.func165.trans (congrArg some (by kernel_rfl))
 f285 := Tryz.func166.trans (congrArg some (by kernel_rfl))
 f286 := Tryz.func167.trans (congrArg some (by kernel_rfl))
 f287 := Tryz.func190.trans (congrArg some (by kernel_rfl))
 f316 := Tryz.func191.trans (congrArg some (by kernel_rfl))
 f317 := Tryz.func184.trans (congrArg some (by kernel_rfl))
 f318 := Tryz.func185.trans (congrArg some (by kernel_rfl))
 f319 := Tryz.func186.trans (congrArg some (by kernel_rfl))
 f320 := Tryz.func187.trans (congrArg some (by kernel_rfl))
 f321 := Tryz.func197.trans (congrArg some (by kernel_rfl))
 f322 := Tryz.func198.trans (congrArg some (by kernel_rfl))
 f337 := Tryz.func194.trans (congrArg some (by kernel_rfl))
 f338 := Tryz.func195.trans (congrArg some (by kernel_rfl))
 t0 := Tryz.underlying0
 a0 := Tryz.isAgg0
 z0 := Tryz.sizeOf0
 v0 := Tryz.zeroValue0
 t2 := Tryz.underlying2
 a2 := Tryz.isAgg2
 z2 := Tryz.sizeOf2
 v2 := Tryz.zeroValue2
 t3 := Tryz.underlying3
 a3 := Tryz.isAgg3
 z3 := Tryz.sizeOf3
 v3 := Tryz.zeroValue3
 t4 := Tryz.underlying4
 a4 := Tryz.isAgg4
 z4 := Tryz.sizeOf4
 v4 := Tryz.zeroValue4
 t5 := Tryz.underlying5
 a5 := Tryz.isAgg5
 z5 := Tryz.sizeOf5
 v5 := Tryz.zeroValue5
 t9 := Tryz.underlying9
 a9 := Tryz.isAgg9
 z9 := Tryz.sizeOf9
 v9 := Tryz.zeroValue9
 t20 := Tryz.underlying20
 a20 := Tryz.isAgg20
 z20 := Tryz.sizeOf20
 v20 := Tryz.zeroValue20
 t21 := Tryz.underlying21
 a21 := Tryz.isAgg21
 z21 := Tryz.sizeOf21
 v21 := Tryz.zeroValue21
 t37 := Tryz.underlying45
 a37 := Tryz.isAgg45
 z37 := Tryz.sizeOf45
 v37 := Tryz.zeroValue45
 t46 := Tryz.underlying136
 a46 := Tryz.isAgg136
 z46 := Tryz.sizeOf136
 v46 := Tryz.zeroValue136
 t51 := Tryz.underlying167
 a51 := Tryz.isAgg167
 z51 := Tryz.sizeOf167
 v51 := Tryz.zeroValue167
 t53 := Tryz.underlying170
 a53 := Tryz.isAgg170
 z53 := Tryz.sizeOf170
 v53 := Tryz.zeroValue170
 t75 := Tryz.underlying49
 a75 := Tryz.isAgg49
 z75 := Tryz.sizeOf49
 v75 := Tryz.zeroValue49
 t76 := Tryz.underlying50
 a76 := Tryz.isAgg50
 z76 := Tryz.sizeOf50
 v76 := Tryz.zeroValue50
 t85 := Tryz.underlying210
 a85 := Tryz.isAgg210
 z85 := Tryz.sizeOf210
 v85 := Tryz.zeroValue210
 t127 := Tryz.underlying94
 a127 := Tryz.isAgg94
 z127 := Tryz.sizeOf94
 v127 := Tryz.zeroValue94
 t143 := Tryz.underlying238
 a143 := Tryz.isAgg238
 z143 := Tryz.sizeOf238
 v143 := Tryz.zeroValue238
 t145 := Tryz.underlying240
 a145 := Tryz.isAgg240
 z145 := Tryz.sizeOf240
 v145 := Tryz.zeroValue240
 t167 := Tryz.underlying209
 a167 := Tryz.isAgg209
 z167 := Tryz.sizeOf209
 v167 := Tryz.zeroValue209
 t168 := Tryz.underlying212
 a168 := Tryz.isAgg212
 z168 := Tryz.sizeOf212
 v168 := Tryz.zeroValue212
 t171 := Tryz.underlying202
 a171 := Tryz.isAgg202
 z171 := Tryz.sizeOf202
 v171 := Tryz.zeroValue202
 t173 := Tryz.underlying204
 a173 := Tryz.isAgg204
 z173 := Tryz.sizeOf204
 v173 := Tryz.zeroValue204
 t175 := Tryz.underlying225
 a175 := Tryz.isAgg225
 z175 := Tryz.sizeOf225
 v175 := Tryz.zeroValue225
 t210 := Tryz.underlying228
 a210 := Tryz.isAgg228
 z210 := Tryz.sizeOf228
 v210 := Tryz.zeroValue228
 t212 := Tryz.underlying222
 a212 := Tryz.isAgg222
 z212 := Tryz.sizeOf222
 v212 := Tryz.zeroValue222
 t213 := Tryz.underlying223
 a213 := Tryz.isAgg223
 z213 := Tryz.sizeOf223
 t232 := Tryz.underlying241
 a232 := Tryz.isAgg241
 z232 := Tryz.sizeOf241
 v232 := Tryz.zeroValue241
 t233 := Tryz.underlying242
 a233 := Tryz.isAgg242
 z233 := Tryz.sizeOf242
 v233 := Tryz.zeroValue242
 g15 := by kernel_rfl
 g16 := by kernel_rfl
 g17 := by kernel_rfl
 g18 := by kernel_rfl
 g19 := by kernel_rfl }
def Tryz.laysM171_ren : Go.Shelf.Ren := ⟨fun | 171 => 41 | 243 => 79 | 246 => 124 | 283 => 164 | 284 => 165 | 285 => 166 | 286 => 167 | 129 => 160 | 317 => 184 | 318 => 185 | 319 => 186 | 320 => 187 | 337 => 194 | 338 => 195 | n => n, fun | 3 => 3 | 9 => 9 | 2 => 2 | 4 => 4 | 171 => 202 | 0 => 0 | 53 => 170 | 37 => 45 | 5 => 5 | 173 => 204 | 212 => 222 | 51 => 167 | 20 => 20 | 213 => 223 | 46 => 136 | 232 => 241 | 233 => 242 | n => n, fun | 17 => 1 | 18 => 6 | 19 => 7 | n => n⟩
theorem Tryz.laysM171 : Go.Proofs.LaysM.n171 Tryz.prog Tryz.laysM171_ren := {
 mixed := by kernel_rfl
 f129 := Tryz.func160.trans (congrArg some (by kernel_rfl))
 f171 := Tryz.func41.trans (congrArg some (by kernel_rfl))
 f243 := Tryz.func79.trans (congrArg some (by kernel_rfl))
 f246 := Tryz.func124.trans (congrArg some (by kernel_rfl))
 f283 := Tryz.func164.trans (congrArg some (by kernel_rfl))
 f284 := Tryz.func165.trans (congrArg some (by kernel_rfl))
 f285 := Tryz.func166.trans (congrArg some (by kernel_rfl))
 f286 := Tryz.func167.trans (congrArg some (by kernel_rfl))
 f317 := Tryz.func184.trans (congrArg some (by kernel_rfl))
 f318 := Tryz.func185.trans (congrArg some (by kernel_rfl))
 f319 := Tryz.func186.trans (congrArg some (by kernel_rfl))
 f320 := Tryz.func187.trans (congrArg some (by kernel_rfl))
 f337 := Tryz.func194.trans (congrArg some (by kernel_rfl))
 f338 := Tryz.func195.trans (congrArg some (by kernel_rfl))
 t0 := Tryz.underlying0
 a0 := Tryz.isAgg0
 z0 := Tryz.sizeOf0
 v0 := Tryz.zeroValue0
 t2 := Tryz.underlying2
 a2 := Tryz.isAgg2
 z2 := Tryz.sizeOf2
 v2 := Tryz.zeroValue2
 t3 := Tryz.underlying3
 a3 := Tryz.isAgg3
 z3 := Tryz.sizeOf3
 v3 := Tryz.zeroValue3
 t4 := Tryz.underlying4
 a4 := Tryz.isAgg4
 z4 := Tryz.sizeOf4
 v4 := Tryz.zeroValue4
 t5 := Tryz.underlying5
 a5 := Tryz.isAgg5
 z5 := Tryz.sizeOf5
 v5 := Tryz.zeroValue5
 t9 := Tryz.underlying9
 a9 := Tryz.isAgg9
 z9 := Tryz.sizeOf9
 v9 := Tryz.zeroValue9
 t20 := Tryz.underlying20
 a20 := Tryz.isAgg20
 z20 := Tryz.sizeOf20
 v20 := Tryz.zeroValue20
 t37 := Tryz.underlying45
 a37 := Tryz.isAgg45
 z37 := Tryz.sizeOf45
 v37 := Tryz.zeroValue45
 t46 := Tryz.underlying136
 a46 := Tryz.isAgg136
 z46 := Tryz.sizeOf136
 v46 := Tryz.zeroValue136
 t51 := Tryz.underlying167
 a51 := Tryz.isAgg167
 z51 := Tryz.sizeOf167
 v51 := Tryz.zeroValue167
 t53 := Tryz.underlying170
 a53 := Tryz.isAgg170
 z53 := Tryz.sizeOf170
 v53 := Tryz.zeroValue170
 t171 := Tryz.underlying202
 a171 := Tryz.isAgg202
 z171 := Tryz.sizeOf202
 v171 := Tryz.zeroValue202
 t173 := Tryz.underlying204
 a173 := Tryz.isAgg204
 z173 := Tryz.sizeOf204
 v173 := Tryz.zeroValue204
 t212 := Tryz.underlying222
 a212 := Tryz.isAgg222
 z212 := Tryz.sizeOf222
 v212 := Tryz.zeroValue222
 t213 := Tryz.underlying223
 a213 := Tryz.isAgg223
 z213 := Tryz.sizeOf223
 t232 := Tryz.underlying241
 a232 := Tryz.isAgg241
 z232 := Tryz.sizeOf241
 v232 := Tryz.zeroValue241
 t233 := Tryz.underlying242
 a233 := Tryz.isAgg242
 z233 := Tryz.sizeOf242
 v233 := Tryz.zeroValue242
 g17 := by kernel_rfl
 g18 := by kernel_rfl
 g19 := by kernel_rfl
 i0 := by kernel_rfl
 i2 := by kernel_rfl
 i3 := by kernel_rfl
 i4 := by kernel_rfl
 i5 := by kernel_rfl
 i9 := by kernel_rfl
 i20 := by kernel_rfl
 i37 := by kernel_rfl
 i46 := by kernel_rfl
 i51 := by kernel_rfl
 i53 := by kernel_rfl
 i171 := by kernel_rfl
 i173 := by kernel_rfl
 i212 := by kernel_rfl
 i232 := by kernel_rfl
 i233 := by kernel_rfl
 m17 := by kernel_rfl
 m18 := by kernel_rfl
 m19 := by kernel_rfl }
def Tryz.lays105_ren : Go.Shelf.Ren := ⟨fun | 105 => 40 | 212 => 76 | 99 => 77 | 165 => 78 | 166 => 20 | 170 => 22 | 169 => 23 | 263 => 120 | 264 => 121 | 206 => 122 | 240 => 43 | 241 => 123 | 276 => 83 | 277 => 163 | n => n, fun | 9 => 9 | 3 => 3 | 4 => 4 | 20 => 20 | 0 => 0 | 46 => 136 | 109 => 137 | 5 => 5 | 72 => 47 | 76 => 50 | 51 => 167 | 146 => 168 | 53 => 170 | 148 => 171 | 70 => 44 | 37 => 45 | 75 => 49 | 127 => 94 | 164 => 145 | 80 => 54 | n => n, fun | n => n⟩
theorem Tryz.lays105 : Go.Proofs.Lays.n105 Tryz.prog Tryz.lays105_ren := {
 mixed := by kernel_rfl
 f99 := Tryz.func77.trans (congrArg some (by kernel_rfl))
 f105 := Tryz.func40.trans (congrArg some (by kernel_rfl))
 f165 := Tryz.func78.trans (congrArg some (by kernel_rfl))
 f166 := Tryz.func20.trans (congrArg some (by kernel_rfl))
 f169 := Tryz.func23.trans (congrArg some (by kernel_rfl))
 f170 := Tryz.func22.trans (congrArg some (by kernel_rfl))
 f206 := Tryz.func122.trans (congrArg some (by kernel_rfl))
 f212 := Tryz.func76.trans (congrArg some (by kernel_rfl))
 f240 := Tryz.func43.trans (congrArg some (by kernel_rfl))
 f241 := Tryz.func123.trans (congrArg some (by kernel_rfl))
 f263 := Tryz.func120.trans (congrArg some (by kernel_rfl))
 f264 := Tryz.func121.trans (congrArg some (by kernel_rfl))
 f276 := Tryz.func83.trans (congrArg some (by kernel_rfl))
 f277 := Tryz.func163.trans (congrArg some (by kernel_rfl))
 t0 := Tryz.underlying0
 a0 := Tryz.isAgg0
 z0 := Tryz.sizeOf0
 v0 := Tryz.zeroValue0
 t3 := Tryz.underlying3
 a3 := Tryz.isAgg3
 z3 := Tryz.sizeOf3
 v3 := Tryz.zeroValue3
 t4 := Tryz.underlying4
 a4 := Tryz.isAgg4
 z4 := Tryz.sizeOf4
 v4 := Tryz.zeroValue4
 t5 := Tryz.underlying5
 a5 := Tryz.isAgg5
 z5 := Tryz.sizeOf5
 v5 := Tryz.zeroValue5
 t9 := Tryz.underlying9
 a9 := Tryz.isAgg9
 z9 := Tryz.sizeOf9
 v9 := Tryz.zeroValue9
 t20 := Tryz.underlying20
 a20 := Tryz.isAgg20
 z20 := Tryz.sizeOf20
 v20 := Tryz.zeroValue20
 t37 := Tryz.underlying45
 a37 := Tryz.isAgg45
 z37 := Tryz.sizeOf45
 v37 := Tryz.zeroValue45
 t46 := Tryz.underlying136
 a46 := Tryz.isAgg136
 z46 := Tryz.sizeOf136
 v46 := Tryz.zeroValue136
 t51 := Tryz.underlying167
 a51 := Tryz.isAgg167
 z51 := Tryz.sizeOf167
 v51 := Tryz.zeroValue167
 t53 := Tryz.underlying170
 a53 := Tryz.isAgg170
 z53 := Tryz.sizeOf170
 v53 := Tryz.zeroValue170
 t70 := Tryz.underlying44
 a70 := Tryz.isAgg44
 z70 := Tryz.sizeOf44
 v70 := Tryz.zeroValue44
 t72 := Tryz.underlying47
 a72 := Tryz.isAgg47
 z72 := Tryz.sizeOf47
 v72 := Tryz.zeroValue47
 t75 := Tryz.underlying49
 a75 := Tryz.isAgg49
 z75 := Tryz.sizeOf49
 v75 := Tryz.zeroValue49
 t76 := Tryz.underlying50
 a76 := Tryz.isAgg50
 z76 := Tryz.sizeOf50
 v76 := Tryz.zeroValue50
 t109 := Tryz.underlying137
 a109 := Tryz.isAgg137
 z109 := Tryz.sizeOf137
 v109 := Tryz.zeroValue137
 t127 := Tryz.underlying94
 a127 := Tryz.isAgg94
 z127 := Tryz.sizeOf94
 v127 := Tryz.zeroValue94
 t146 := Tryz.underlying168
 a146 := Tryz.isAgg168
 z146 := Tryz.sizeOf168
 v146 := Tryz.zeroValue168
 t148 := Tryz.underlying171
 a148 := Tryz.isAgg171
 z148 := Tryz.sizeOf171
 v148 := Tryz.zeroValue171
 t164 := Tryz.underlying145
 a164 := Tryz.isAgg145
 z164 := Tryz.sizeOf145
 v164 := Tryz.zeroValue145 }
theorem Tryz.Builder_Extra_105 : Builder.Extra Tryz.prog Tryz.lays105_ren := {
 sizeBuilder := by kernel_rfl
 liesBuilder := by kernel_rfl
 t5 := Tryz.underlying5
 a5 := Tryz.isAgg5
 z5 := Tryz.sizeOf5
 v5 := Tryz.zeroValue5
 infoByte := by kernel_rfl
 cellsByte := by kernel_rfl
 sizeByte := by kernel_rfl
 neB5 := by decide }
end Go.Proofs

namespace Go.Vc
open Go
abbrev Xl := Nat → Value
def upd (e : Xl) (d : Nat) (v : Value) : Xl := fun t => bif Nat.beq t d then v else e t
def ev (e : Xl) : Operand → Value
 | .tmp t => e t
 | .const v => v
 | .global g => .pointer (some ⟨g, 0, none⟩)
 | .func f => .func (.func f) #[] #[]
structure Sim (n : Nat) (a : Act) (e : Xl) : Prop where
 defers : a.defers = []
 size : a.tmps.size = n
 val : ∀ t, a.tmps.getD t undef = e t
theorem Sim.ev {n : Nat} {a : Act} {e : Xl} (h : Sim n a e) : a.eval = ev e := by
 funext o
 cases o <;> simp [Act.eval, Vc.ev, h.val]
theorem beq_eq (a b : Nat) : Nat.beq a b = decide (a = b) := by
 rw [Bool.eq_iff_iff]; simp [Nat.beq_eq]
theorem upd_same (e : Xl) (d : Nat) (v : Value) : upd e d v d = v := by simp [upd]
theorem upd_ne (e : Xl) (d t : Nat) (v : Value) (h : t ≠ d) : upd e d v t = e t := by simp [upd, beq_eq, h]
theorem Sim.put {n : Nat} {a : Act} {e : Xl} (h : Sim n a e) {d : Nat} (hd : Nat.blt d n = true) (v : Value) : Sim n (a.put (some d) v) (upd e d v) := by
 have hd' : d < n := by simpa using hd
 refine ⟨h.defers, by simp [Act.put, h.size], fun t => ?_⟩
 have ht := h.val t
 by_cases htd : t = d
 ·subst htd
  rw [upd_same]
  simp [Act.put, Array.getD_eq_getD_getElem?, h.size, hd']
 ·rw [upd_ne _ _ _ _ htd, ← ht]
  simp only [Act.put, Array.getD_eq_getD_getElem?]
  rw [Array.getElem?_setIfInBounds]
  have : ¬ d = t := fun e => htd e.symm
  simp [this]
def lget : List Value → Xl
 | [], _ => undef
 | v :: _, 0 => v
 | _ :: l, t + 1 => lget l t
theorem lget_eq (l : List Value) (t : Nat) : lget l t = l.getD t undef := by
 induction l generalizing t with
 | nil => simp [lget]
 | cons v l ih => cases t <;> simp [lget, ih]
def Grow (w w' : World) : Prop := Go.RowKit.Below w.heap.size w w'
theorem Grow.refl (w : World) : Grow w w := Go.RowKit.Below.refl _ _
theorem Grow.trans {a b c : World} (h : Grow a b) (k : Grow b c) : Grow a c := Go.RowKit.Below.trans h (Go.RowKit.Below.mono k h.size)
structure Chunk where
 P : (Nat → Prop) → World → Prop
 loc : ∀ S w w', (∀ b, S b → w'.heap[b]? = w.heap[b]?) → P S w → P S w'
structure Cx where
 w0 : World
 S0 : Nat → Prop
def Cx.own (cx : Cx) (b : Nat) : Prop := cx.w0.heap.size ≤ b ∨ cx.S0 b
structure Fr (cx : Cx) (w : World) : Prop where
 os : w.os = cx.w0.os
 tape : w.tape = cx.w0.tape
 output : w.output = cx.w0.output
 size : cx.w0.heap.size ≤ w.heap.size
 block : ∀ b, ¬ cx.own b → w.heap[b]? = cx.w0.heap[b]?
structure Sat (cx : Cx) (w : World) (L : List Chunk) : Prop where
 out : ∃ fp : Nat → Nat → Prop, (∀ (i : Nat) (c : Chunk), L[i]? = some c → c.P (fp i) w) ∧ (∀ i b, fp i b → i < L.length ∧ b < w.heap.size ∧ cx.own b) ∧ (∀ i j b, fp i b → fp j b → i = j)
theorem Fr.refl (w : World) (S0 : Nat → Prop) : Fr ⟨w, S0⟩ w := ⟨rfl, rfl, rfl, Nat.le_refl _, fun _ _ => rfl⟩
theorem Fr.grow {cx : Cx} {w w' : World} (h : Fr cx w) (g : Grow w w') : Fr cx w' := by
 refine ⟨g.os.trans h.os, g.tape.trans h.tape, g.output.trans h.output, Nat.le_trans h.size g.size, fun b hb => ?_⟩
 have hlt : b < w.heap.size := by
  have : ¬ cx.w0.heap.size ≤ b := fun hh => hb (.inl hh)
  have := h.size
  omega
 rw [g.block b hlt, h.block b hb]
theorem Sat.grow {cx : Cx} {w w' : World} {L : List Chunk} (h : Sat cx w L) (g : Grow w w') : Sat cx w' L := by
 obtain ⟨fp, h1, h2, h3⟩ := h.out
 refine ⟨fp, fun i c hc => c.loc _ _ _ (fun b hb => g.block b (h2 i b hb).2.1) (h1 i c hc), fun i b hb => ?_, h3⟩
 obtain ⟨a1, a2, a3⟩ := h2 i b hb
 exact ⟨a1, Nat.lt_of_lt_of_le a2 g.size, a3⟩
theorem Sat.nil (cx : Cx) (w : World) : Sat cx w [] := ⟨fun _ _ => False, by simp, fun _ _ h => h.elim, fun _ _ _ h => h.elim⟩
theorem Sat.snoc {cx : Cx} {w w' : World} {L : List Chunk} {c : Chunk} {S : Nat → Prop} (h : Sat cx w L) (hf : Fr cx w) (g : Grow w w') (hc : c.P S w')
  (hS : ∀ b, S b → w.heap.size ≤ b ∧ b < w'.heap.size) : Sat cx w' (L ++ [c]) := by
 obtain ⟨fp, k1, h2, h3⟩ := h.out
 have h1 : ∀ (i : Nat) (c : Chunk), L[i]? = some c → c.P (fp i) w' := fun i c hc => c.loc _ _ _ (fun b hb => g.block b (h2 i b hb).2.1) (k1 i c hc)
 refine ⟨fun i b => (i < L.length ∧ fp i b) ∨ (i = L.length ∧ S b), ?_, ?_, ?_⟩
 ·intro i d hd
  by_cases hi : i < L.length
  ·have : (fun b => (i < L.length ∧ fp i b) ∨ (i = L.length ∧ S b)) = fp i := by
    funext b; apply propext; constructor
    ·rintro (⟨_, h⟩ | ⟨h, _⟩)
     ·exact h
     ·omega
    ·exact fun h => .inl ⟨hi, h⟩
   show d.P (fun b => (i < L.length ∧ fp i b) ∨ (i = L.length ∧ S b)) w'
   rw [this]
   exact h1 i d (by simpa [List.getElem?_append_left hi] using hd)
  ·have hle : L.length ≤ i := by omega
   rw [List.getElem?_append_right hle] at hd
   have hi0 : i - L.length = 0 := by
    by_cases h0 : i - L.length = 0
    ·exact h0
    ·obtain ⟨k, hk⟩ : ∃ k, i - L.length = k + 1 := ⟨i - L.length - 1, by omega⟩
     rw [hk] at hd; simp at hd
   have hil : i = L.length := by omega
   rw [hi0] at hd
   simp at hd
   subst hd
   have : (fun b => (i < L.length ∧ fp i b) ∨ (i = L.length ∧ S b)) = S := by
    funext b; apply propext; constructor
    ·rintro (⟨h, _⟩ | ⟨_, h⟩)
     ·omega
     ·exact h
    ·exact fun h => .inr ⟨hil, h⟩
   show c.P (fun b => (i < L.length ∧ fp i b) ∨ (i = L.length ∧ S b)) w'
   rw [this]
   exact hc
 ·rintro i b (⟨hi, hb⟩ | ⟨hi, hb⟩)
  ·obtain ⟨a1, a2, a3⟩ := h2 i b hb
   exact ⟨by simp; omega, Nat.lt_of_lt_of_le a2 g.size, a3⟩
  ·obtain ⟨a1, a2⟩ := hS b hb
   exact ⟨by simp; omega, a2, .inl (Nat.le_trans hf.size a1)⟩
 ·rintro i j b (⟨hi, hb⟩ | ⟨hi, hb⟩) (⟨hj, hb'⟩ | ⟨hj, hb'⟩)
  ·exact h3 i j b hb hb'
  ·have := (h2 i b hb).2.1; have := (hS b hb').1; omega
  ·have := (h2 j b hb').2.1; have := (hS b hb).1; omega
  ·omega
theorem Sat.set {cx : Cx} {w w' : World} {L : List Chunk} {i : Nat} {c c' : Chunk} (h : Sat cx w L) (hf : Fr cx w) (hi : L[i]? = some c)
  (hs : w.heap.size ≤ w'.heap.size)
  (hc : ∀ S : Nat → Prop, c.P S w → (∀ b, S b → b < w.heap.size ∧ cx.own b) → ∃ S' : Nat → Prop, c'.P S' w' ∧ (∀ b, S' b → b < w'.heap.size ∧ (S b ∨ w.heap.size ≤ b)) ∧ ∀ b, b < w.heap.size → ¬ S b → w'.heap[b]? = w.heap[b]?) :
  Sat cx w' (L.set i c') := by
 obtain ⟨fp, h1, h2, h3⟩ := h.out
 obtain ⟨S', k1, k2, k3⟩ := hc (fp i) (h1 i c hi) (fun b hb => (h2 i b hb).2)
 have hil : i < L.length := by
  rcases Nat.lt_or_ge i L.length with h | h
  ·exact h
  ·simp [List.getElem?_eq_none h] at hi
 refine ⟨fun j b => if j = i then S' b else fp j b, ?_, ?_, ?_⟩
 ·intro j d hd
  by_cases hji : j = i
  ·subst hji
   simp [List.getElem?_set_self hil] at hd
   subst hd
   simpa using k1
  ·rw [List.getElem?_set_ne (fun e => hji e.symm)] at hd
   simp only [hji, if_false]
   exact d.loc _ _ _ (fun b hb => k3 b (h2 j b hb).2.1 (fun hib => hji (h3 j i b hb hib))) (h1 j d hd)
 ·intro j b hb
  by_cases hji : j = i
  ·simp only [hji, if_true] at hb
   refine ⟨by simp [hji, hil], (k2 b hb).1, ?_⟩
   rcases (k2 b hb).2 with h | h
   ·exact (h2 i b h).2.2
   ·exact .inl (Nat.le_trans hf.size h)
  ·simp only [hji, if_false] at hb
   obtain ⟨a1, a2, a3⟩ := h2 j b hb
   exact ⟨by simpa using a1, by omega, a3⟩
 ·intro j k b hj hk
  by_cases hji : j = i <;> by_cases hki : k = i <;> simp only [hji, hki, if_true, if_false] at hj hk
  ·omega
  ·obtain ⟨_, a2, _⟩ := h2 k b hk
   rcases (k2 b hj).2 with h | h
   ·exact absurd (h3 k i b hk h) hki
   ·omega
  ·obtain ⟨_, a2, _⟩ := h2 j b hj
   rcases (k2 b hk).2 with h | h
   ·exact absurd (h3 j i b hj h) hji
   ·omega
  ·exact h3 j k b hj hk
theorem Sat.select {cx : Cx} {w : World} {L L' : List Chunk} (h : Sat cx w L) (sel : List Nat) (hnd : sel.Nodup) (hs : sel.map (fun i => L[i]?) = L'.map some) : Sat cx w L' := by
 obtain ⟨fp, h1, h2, h3⟩ := h.out
 have hlen : sel.length = L'.length := by simpa using congrArg List.length hs
 refine ⟨fun k b => ∃ i, sel[k]? = some i ∧ fp i b, ?_, ?_, ?_⟩
 ·intro k c hc
  have hk : (sel.map (fun i => L[i]?))[k]? = (L'.map some)[k]? := by rw [hs]
  simp only [List.getElem?_map, hc, Option.map_some] at hk
  cases hsk : sel[k]? with
  | none => simp [hsk] at hk
  | some i =>
   simp [hsk] at hk
   have : (fun b => ∃ j, some i = some j ∧ fp j b) = fp i := by
    funext b; apply propext; constructor
    ·rintro ⟨j, hj, hb⟩; cases hj; exact hb
    ·exact fun hb => ⟨i, rfl, hb⟩
   show c.P (fun b => ∃ j, sel[k]? = some j ∧ fp j b) w
   rw [hsk, this]
   exact h1 i c hk
 ·rintro k b ⟨i, hi, hb⟩
  have hkl : k < sel.length := by
   rcases Nat.lt_or_ge k sel.length with h | h
   ·exact h
   ·simp [List.getElem?_eq_none h] at hi
  exact ⟨by omega, (h2 i b hb).2⟩
 ·rintro k k' b ⟨i, hi, hb⟩ ⟨i', hi', hb'⟩
  have := h3 i i' b hb hb'
  subst this
  have hkl : k < sel.length := by
   rcases Nat.lt_or_ge k sel.length with h | h
   ·exact h
   ·simp [List.getElem?_eq_none h] at hi
  have hkl' : k' < sel.length := by
   rcases Nat.lt_or_ge k' sel.length with h | h
   ·exact h
   ·simp [List.getElem?_eq_none h] at hi'
  have hp := List.pairwise_iff_getElem.1 hnd
  rw [List.getElem?_eq_getElem hkl] at hi
  rw [List.getElem?_eq_getElem hkl'] at hi'
  rcases Nat.lt_trichotomy k k' with h | h | h
  ·exact absurd ((Option.some.inj hi).trans (Option.some.inj hi').symm) (hp k k' hkl hkl' h)
  ·exact h
  ·exact absurd ((Option.some.inj hi').trans (Option.some.inj hi).symm) (hp k' k hkl' hkl h)
structure At (cx : Cx) (K : Xl → World → Prop) (e : Xl) (L : List Chunk) : Prop where
 out : ∀ w, Fr cx w → Sat cx w L → K e w
abbrev Jax := Exit → Xl → World → Prop
def lift (n : Nat) (Q : Jax) : Exit → Act → World → Prop := fun x a w => ∃ e, Sim n a e ∧ Q x e w
structure WC (P : Program) (n : Nat) (c : Code) (Q : Jax) (e : Xl) (w : World) : Prop where
 out : ∀ a, Sim n a e → c.wp P (lift n Q) a w
structure WL (P : Program) (n : Nat) (ops : Array Oper) (Q : Jax) (l : List Oper) (e : Xl) (w : World) : Prop where
 out : ∀ a, Sim n a e → wpList P ops (lift n Q) l a w
def ThenQ (K : Xl → World → Prop) (Q : Jax) : Jax
 | .normal, e, w => K e w
 | .exit i, e, w => Q (.exit i) e w
 | .goto l, e, w => Q (.goto l) e w
 | .ret, e, w => Q .ret e w
 | .panic c, e, w => Q (.panic c) e w
 | .outgrown, e, w => Q .outgrown e w
def BlockQ (id : Nat) (Q : Jax) : Jax
 | .normal, e, w => Q .normal e w
 | .exit i, e, w => bif Nat.beq i id then Q .normal e w else Q (.exit i) e w
 | .goto l, e, w => Q (.goto l) e w
 | .ret, e, w => Q .ret e w
 | .panic c, e, w => Q (.panic c) e w
 | .outgrown, e, w => Q .outgrown e w
section rules
variable {P : Program} {n : Nat} {cx : Cx} {Q : Jax} {e : Xl} {L : List Chunk}
theorem Jc {x y : Code} (h : At cx (WC P n x (ThenQ (WC P n y Q) Q)) e L) : At cx (WC P n (.seq x y) Q) e L :=
 ⟨fun w hF hS => ⟨fun a ha => wp_seq (Code.wp_mono (fun x' a' w' hq => by
  obtain ⟨e', hs, hq⟩ := hq
  cases x' <;> first | exact ⟨e', hs, hq⟩ | exact WC.out hq a' hs) ((h.out w hF hS).out a ha))⟩⟩
theorem Jh (h : At cx (Q .normal) e L) : At cx (WC P n .skip Q) e L :=
 ⟨fun w hF hS => ⟨fun _ ha => wp_skip ⟨e, ha, h.out w hF hS⟩⟩⟩
theorem Ji (h : At cx (Q .ret) e L) : At cx (WC P n .ret Q) e L :=
 ⟨fun w hF hS => ⟨fun _ ha => wp_ret ⟨e, ha, h.out w hF hS⟩⟩⟩
theorem Qp {id : Nat} (h : At cx (Q (.exit id)) e L) : At cx (WC P n (.exit id) Q) e L :=
 ⟨fun w hF hS => ⟨fun _ ha => wp_exit ⟨e, ha, h.out w hF hS⟩⟩⟩
theorem Jp {id : Nat} {c : Code} (h : At cx (WC P n c (BlockQ id Q)) e L) : At cx (WC P n (.block id c) Q) e L :=
 ⟨fun w hF hS => ⟨fun a ha => wp_block (Code.wp_mono (fun x' a' w' hq => by
  obtain ⟨e', hs, hq⟩ := hq
  cases x' with
  | exit i =>
   simp only [Exit.inBlock, lift]
   by_cases hi : i = id
   ·simp only [hi, if_true]
    have hb : Nat.beq id id = true := by simp
    have hq' : (bif Nat.beq i id then Q .normal e' w' else Q (.exit i) e' w') := hq
    rw [hi, hb] at hq'
    exact ⟨e', hs, hq'⟩
   ·have hb : Nat.beq i id = false := by simp [beq_eq, hi]
    have hq' : (bif Nat.beq i id then Q .normal e' w' else Q (.exit i) e' w') := hq
    rw [hb] at hq'
    simp only [hi, if_false]
    exact ⟨e', hs, hq'⟩
  | normal => exact ⟨e', hs, hq⟩
  | goto l => exact ⟨e', hs, hq⟩
  | ret => exact ⟨e', hs, hq⟩
  | panic c => exact ⟨e', hs, hq⟩
  | outgrown => exact ⟨e', hs, hq⟩) ((h.out w hF hS).out a ha))⟩⟩
theorem Jak {c : Operand} {x y : Code} {b : Bool} (hc : ev e c = .bool b) (ht : b = true → At cx (WC P n x Q) e L) (hf : b = false → At cx (WC P n y Q) e L) :
  At cx (WC P n (.cond c x y) Q) e L :=
 ⟨fun w hF hS => ⟨fun a ha => wp_cond_split (by rw [ha.ev]; exact hc) (fun hb => ((ht hb).out w hF hS).out a ha) (fun hb => ((hf hb).out w hF hS).out a ha)⟩⟩
theorem Yc {c : Operand} {x y : Code} (hc : ev e c = .bool true) (ht : At cx (WC P n x Q) e L) : At cx (WC P n (.cond c x y) Q) e L :=
 Jak hc (fun _ => ht) (fun h => by cases h)
theorem Zc {c : Operand} {x y : Code} (hc : ev e c = .bool false) (hf : At cx (WC P n y Q) e L) : At cx (WC P n (.cond c x y) Q) e L :=
 Jak hc (fun h => by cases h) (fun _ => hf)
theorem Ja {id : Nat} {l : List Oper} (h : At cx (WL P n l.toArray Q l) e L) : At cx (WC P n (.region id l.toArray false) Q) e L :=
 ⟨fun w hF hS => ⟨fun a ha => wp_region_lit ((h.out w hF hS).out a ha)⟩⟩
theorem Jd {ops : Array Oper} (h : At cx (Q .normal) e L) : At cx (WL P n ops Q []) e L :=
 ⟨fun w hF hS => ⟨fun _ ha => wpList_nil ⟨e, ha, h.out w hF hS⟩⟩⟩
end rules
def Jfh (P : Program) (fn : Func) (R : Value → World → Prop) : Jax
 | .normal, e, w | .ret, e, w => ∀ tmps : Array Value, (∀ t, tmps.getD t undef = e t) → ∃ v, (results fn tmps).run P w = .ok v w ∧ R v w
 | _, _, _ => False
def Does (P : Program) (f : FuncId) (args : Array Value) (w : World) (R : Value → World → Prop) : Prop :=
 Calls P f args w fun en w' => ∃ v, en = .returned v ∧ R v w'
theorem Does.mono {P : Program} {f : FuncId} {args : Array Value} {w : World} {R R' : Value → World → Prop} (h : Does P f args w R) (hr : ∀ v w', R v w' → R' v w') : Does P f args w R' :=
 Calls.mono h fun _ _ ⟨v, he, hv⟩ => ⟨v, he, hr _ _ hv⟩
theorem getD_args (args : List Value) (k t : Nat) : (args.toArray ++ Array.replicate k undef).getD t undef = lget args t := by
 rw [lget_eq, Array.getD_eq_getD_getElem?, Array.getElem?_append]
 split
 ·simp [List.getD_eq_getElem?_getD]
 ·rename_i h
  have h' : args.length ≤ t := by simpa using h
  rw [List.getD_eq_getElem?_getD, List.getElem?_eq_none h']
  rw [Array.getElem?_replicate]
  split <;> rfl
theorem enter {P : Program} {f : FuncId} {fn : Func} {c : Code} {args : List Value} {n : Nat} {w : World} {R : Value → World → Prop} (hf : P.funcs[f]? = some fn) (hb : fn.body = some c) (hn : fn.ntmps = n) (hle : Nat.ble args.length n = true)
  (S0 : Nat → Prop) (L : List Chunk) (hL : Sat ⟨w, S0⟩ w L) (h : At ⟨w, S0⟩ (WC P n c (Jfh P fn R)) (lget args) L) : Does P f args.toArray w R := by
 refine calls_of_wp hf hb ?_
 refine Code.wp_mono ?_ ((h.out w (Fr.refl w S0) hL).out _ ⟨rfl, ?_, ?_⟩)
 ·rintro x a w' ⟨e, hs, hq⟩
  cases x with
  | normal =>
   obtain ⟨v, hr, hR⟩ := hq a.tmps hs.val
   exact ⟨hs.defers, v, hr, v, rfl, hR⟩
  | ret =>
   obtain ⟨v, hr, hR⟩ := hq a.tmps hs.val
   exact ⟨hs.defers, v, hr, v, rfl, hR⟩
  | exit i => exact hq.elim
  | goto i => exact hq.elim
  | panic i => exact hq.elim
  | outgrown => exact hq.elim
 ·have hle' : args.length ≤ n := by simpa using hle
  simp only [hn, Array.size_append, List.size_toArray, Array.size_replicate]
  omega
 ·intro t
  exact getD_args args _ t
end Go.Vc

namespace Go.Vc
open Go
def X3 (ops : Array Oper) (o : Oper) (e : Xl) : Bool :=
 match o.guard with
 | none => true
 | some (j, b) => match (ops[j]?).bind (·.dst) with
  | none => false
  | some d => match e d, b with
   | .bool true, b => b
   | .bool false, true => false
   | .bool false, false => true
   | _, _ => false
theorem Jfx {n : Nat} {a : Act} {e : Xl} (h : Sim n a e) (ops : Array Oper) (o : Oper) : Region.wanted o (yielded ops a.tmps) = X3 ops o e := by
 unfold Region.wanted X3
 cases hg : o.guard with
 | none => rfl
 | some jb =>
  obtain ⟨j, b⟩ := jb
  simp only [yielded]
  cases hd : (ops[j]?).bind (·.dst) with
  | none => rfl
  | some d =>
   simp only [Option.bind_some]
   have hv := h.val d
   rw [Array.getD_eq_getD_getElem?] at hv
   cases ht : a.tmps[d]? with
   | none =>
    rw [ht] at hv
    simp only [Option.getD_none] at hv
    rw [← hv]
    rfl
   | some v =>
    rw [ht] at hv
    simp only [Option.getD_some] at hv
    rw [← hv]
    cases v <;> first | rfl | (rename_i x; cases x <;> cases b <;> rfl)
section rules
variable {P : Program} {n : Nat} {cx : Cx} {Q : Jax} {e : Xl} {L : List Chunk} {ops : Array Oper} {rest : List Oper}
theorem Jx {o : Oper} {d : Nat} (hw : X3 ops o e = false) (hd : o.dst = some d) (hn : Nat.blt d n = true) (k : At cx (WL P n ops Q rest) (upd e d undef) L) : At cx (WL P n ops Q (o :: rest)) e L :=
 ⟨fun w hF hS => ⟨fun a ha => by
  unfold wpList
  rw [Jfx ha, hw]
  rw [hd]
  exact (k.out w hF hS).out _ (ha.put hn undef)⟩⟩
theorem Jeo {o : Oper} {d : Nat} (hw : X3 ops o e = true) (hd : o.dst = some d) (hn : Nat.blt d n = true)
  (h : ∀ w, Fr cx w → Sat cx w L → ∃ v w', (execOp (ev e) o).run P w = .ok (.value v) w' ∧ WL P n ops Q rest (upd e d v) w') : At cx (WL P n ops Q (o :: rest)) e L :=
 ⟨fun w hF hS => ⟨fun a ha => by
  obtain ⟨v, w', hr, hk⟩ := h w hF hS
  unfold wpList
  rw [Jfx ha, hw, if_pos rfl]
  refine .inl ?_
  unfold Oper.wp
  rw [ha.ev, hr]
  show wpList P ops (lift n Q) rest (a.put o.dst v) w'
  rw [hd]
  exact hk.out _ (ha.put hn v)⟩⟩
theorem l_acts {o : Oper} (hw : X3 ops o e = true) (hd : o.dst = none)
  (h : ∀ w, Fr cx w → Sat cx w L → ∃ w', (execOp (ev e) o).run P w = .ok .skip w' ∧ WL P n ops Q rest e w') : At cx (WL P n ops Q (o :: rest)) e L :=
 ⟨fun w hF hS => ⟨fun a ha => by
  obtain ⟨w', hr, hk⟩ := h w hF hS
  unfold wpList
  rw [Jfx ha, hw, if_pos rfl]
  refine .inl ?_
  unfold Oper.wp
  rw [ha.ev, hr]
  show wpList P ops (lift n Q) rest (a.put o.dst undef) w'
  rw [hd]
  exact hk.out _ ha⟩⟩
theorem l_calls {o : Oper} {d : Nat} {f : FuncId} {args : Array Value} (hw : X3 ops o e = true) (hd : o.dst = some d) (hn : Nat.blt d n = true)
  (hr : ∀ w, (execOp (ev e) o).run P w = .ok (.enter f args) w)
  (h : ∀ w, Fr cx w → Sat cx w L → Does P f args w fun v w' => WL P n ops Q rest (upd e d v) w') : At cx (WL P n ops Q (o :: rest)) e L :=
 ⟨fun w hF hS => ⟨fun a ha => by
  unfold wpList
  rw [Jfx ha, hw, if_pos rfl]
  refine .inl ?_
  unfold Oper.wp
  rw [ha.ev, hr]
  show Calls P f args w _
  refine Calls.mono (h w hF hS) ?_
  rintro en w' ⟨v, rfl, hk⟩
  show wpList P ops (lift n Q) rest (a.put o.dst v) w'
  rw [hd]
  exact hk.out _ (ha.put hn v)⟩⟩
theorem Jf {o : Oper} {d : Nat} {v : Value} (hw : X3 ops o e = true) (hd : o.dst = some d) (hn : Nat.blt d n = true)
  (hr : ∀ w, (execOp (ev e) o).run P w = .ok (.value v) w) (k : At cx (WL P n ops Q rest) (upd e d v) L) : At cx (WL P n ops Q (o :: rest)) e L :=
 Jeo hw hd hn fun w hF hS => ⟨v, w, hr w, k.out w hF hS⟩
section ops
variable {d : Option Nat} {ty : TypeId} {pos : String} {af : Array Edge} {g : Option (Nat × Bool)}
theorem Jk {X : Operand} {v : Value} (hx : ev e X = v) (w : World) :
  (execOp (ev e) ⟨d, .move X, ty, pos, af, g⟩).run P w = .ok (.value v) w :=
 by subst hx; rfl
theorem Jg {X : Operand} {v : Value} (hx : ev e X = v) (w : World) :
  (execOp (ev e) ⟨d, .assign X, ty, pos, af, g⟩).run P w = .ok (.value v) w :=
 by subst hx; rfl
theorem Xp {c A B : Operand} {v : Value} (hc : ev e c = .bool true) (hx : ev e A = v) (w : World) :
  (execOp (ev e) ⟨d, .pick c A B, ty, pos, af, g⟩).run P w = .ok (.value v) w :=
 by subst hx; simp [execOp, hc, asBool]
theorem X4 {c A B : Operand} {v : Value} (hc : ev e c = .bool false) (hx : ev e B = v) (w : World) :
  (execOp (ev e) ⟨d, .pick c A B, ty, pos, af, g⟩).run P w = .ok (.value v) w :=
 by subst hx; simp [execOp, hc, asBool]
theorem split {K : Xl → World → Prop} {b : Bool} {d : Nat} (ht : b = true → At cx K (upd e d (.bool true)) L) (hf : b = false → At cx K (upd e d (.bool false)) L) : At cx K (upd e d (.bool b)) L := by
 cases b
 ·exact hf rfl
 ·exact ht rfl
theorem Jay {X : Operand} {b : Bool} {t : TypeId} (hx : ev e X = .bool b) (w : World) :
  (execOp (ev e) ⟨d, .unOp .not t X, ty, pos, af, g⟩).run P w = .ok (.value (.bool (!b))) w :=
 by simp [execOp, hx, Op.unary]
section bin
variable {X Y : Operand} {x y : Int} {t t' : TypeId} {kd : IntKind}
theorem Jkz (w : World) (op : BinOp) : (eqGuard op t X Y (.int kd x) (.int kd y)).run P w = .ok () w := by
 unfold eqGuard; cases op <;> rfl
theorem Jez {op : BinOp} {v : Value} (hx : ev e X = .int kd x) (hy : ev e Y = .int kd y)
  (hr : ∀ w, (binOp op t (.int kd x) (.int kd y)).run P w = .ok v w) (w : World) :
  (execOp (ev e) ⟨d, .binOp op t X Y t', ty, pos, af, g⟩).run P w = .ok (.value v) w :=
 by simp [execOp, hx, hy, Jkz, hr]
theorem r_add (hx : ev e X = .int .i64 x) (hy : ev e Y = .int .i64 y)
  (hr : -9223372036854775808 ≤ x + y ∧ x + y ≤ 9223372036854775807) (w : World) :
  (execOp (ev e) ⟨d, .binOp .add t X Y t', ty, pos, af, g⟩).run P w = .ok (.value (.int .i64 (x + y))) w :=
 Jez hx hy (fun w => by simp [binOp, Op.intArith, IntWalk.i64_in _ hr]) w
theorem r_sub (hx : ev e X = .int .i64 x) (hy : ev e Y = .int .i64 y)
  (hr : -9223372036854775808 ≤ x - y ∧ x - y ≤ 9223372036854775807) (w : World) :
  (execOp (ev e) ⟨d, .binOp .sub t X Y t', ty, pos, af, g⟩).run P w = .ok (.value (.int .i64 (x - y))) w :=
 Jez hx hy (fun w => by simp [binOp, Op.intArith, IntWalk.i64_in _ hr]) w
theorem r_mul (hx : ev e X = .int .i64 x) (hy : ev e Y = .int .i64 y)
  (hr : -9223372036854775808 ≤ x * y ∧ x * y ≤ 9223372036854775807) (w : World) :
  (execOp (ev e) ⟨d, .binOp .mul t X Y t', ty, pos, af, g⟩).run P w = .ok (.value (.int .i64 (x * y))) w :=
 Jez hx hy (fun w => by simp [binOp, Op.intArith, IntWalk.i64_in _ hr]) w
theorem r_rem (hx : ev e X = .int kd x) (hy : ev e Y = .int kd y)
  (hy0 : y ≠ 0) (w : World) :
  (execOp (ev e) ⟨d, .binOp .rem t X Y t', ty, pos, af, g⟩).run P w = .ok (.value (.int kd (x.tmod y))) w :=
 Jez hx hy (fun w => by simp [binOp, Op.intDiv, hy0]) w
theorem Xk (hx : ev e X = .int kd x) (hy : ev e Y = .int kd y) (w : World) :
  (execOp (ev e) ⟨d, .binOp .lss t X Y t', ty, pos, af, g⟩).run P w = .ok (.value (.bool (decide (x < y)))) w :=
 Jez hx hy (fun w => by simp [binOp, Op.intCmp]) w
theorem r_leq (hx : ev e X = .int kd x) (hy : ev e Y = .int kd y) (w : World) :
  (execOp (ev e) ⟨d, .binOp .leq t X Y t', ty, pos, af, g⟩).run P w = .ok (.value (.bool (decide (x ≤ y)))) w :=
 Jez hx hy (fun w => by simp [binOp, Op.intCmp]) w
theorem Ye (hx : ev e X = .int kd x) (hy : ev e Y = .int kd y) (w : World) :
  (execOp (ev e) ⟨d, .binOp .gtr t X Y t', ty, pos, af, g⟩).run P w = .ok (.value (.bool (decide (y < x)))) w :=
 Jez hx hy (fun w => by simp [binOp, Op.intCmp]) w
theorem Jg5 (hx : ev e X = .int kd x) (hy : ev e Y = .int kd y) (w : World) :
  (execOp (ev e) ⟨d, .binOp .geq t X Y t', ty, pos, af, g⟩).run P w = .ok (.value (.bool (decide (y ≤ x)))) w :=
 Jez hx hy (fun w => by simp [binOp, Op.intCmp]) w
theorem Qd (hx : ev e X = .int kd x) (hy : ev e Y = .int kd y) (w : World) :
  (execOp (ev e) ⟨d, .binOp .eql t X Y t', ty, pos, af, g⟩).run P w = .ok (.value (.bool (decide (x = y)))) w :=
 Jez hx hy (fun w => by simp [binOp, Op.intCmp]; rfl) w
theorem Vk (hx : ev e X = .int kd x) (hy : ev e Y = .int kd y) (w : World) :
  (execOp (ev e) ⟨d, .binOp .neq t X Y t', ty, pos, af, g⟩).run P w = .ok (.value (.bool (decide (x ≠ y)))) w :=
 Jez hx hy (fun w => by simp [binOp, Op.intCmp, bne]; rfl) w
end bin
theorem Jo {X : Operand} {ix : Nat} {vs : Array Value} {v : Value} (hx : ev e X = .tuple vs) (hv : vs[ix]? = some v) (w : World) :
  (execOp (ev e) ⟨d, .extract X ix, ty, pos, af, g⟩).run P w = .ok (.value v) w :=
 by simp [execOp, hx, Instr.extract, hv]
theorem r_min {X Y : Operand} {x y : Int} {kd : IntKind} {tys : Array TypeId}
  (hx : ev e X = .int kd x) (hy : ev e Y = .int kd y) (w : World) :
  (execOp (ev e) ⟨d, .call ⟨.builtin .min, #[X, Y], tys⟩, ty, pos, af, g⟩).run P w = .ok (.value (.int kd (min x y))) w :=
 by
  have : (if y < x then y else x) = min x y := by rw [Int.min_def]; split <;> split <;> omega
  simp [execOp, resolve, invoke, builtin, hx, hy, Builtin.min_, Builtin.min2, this]
theorem r_max {X Y : Operand} {x y : Int} {kd : IntKind} {tys : Array TypeId}
  (hx : ev e X = .int kd x) (hy : ev e Y = .int kd y) (w : World) :
  (execOp (ev e) ⟨d, .call ⟨.builtin .max, #[X, Y], tys⟩, ty, pos, af, g⟩).run P w = .ok (.value (.int kd (max x y))) w :=
 by
  have : (if y > x then y else x) = max x y := by rw [Int.max_def]; split <;> split <;> omega
  simp [execOp, resolve, invoke, builtin, hx, hy, Builtin.max_, Builtin.max2]; simpa using this
theorem Yi {t : TypeId} {parts : Array (Nat × Operand)} {fs : Array Field} {pl : Array (Nat × Nat)} {z cells : Array Value} {ps : List (Nat × Value)}
  (hz : ∀ w, (zeroValue t).run P w = .ok (.agg z) w) (hu : ∀ w, (underlying t).run P w = .ok (.struct fs) w)
  (hpl : ∀ w, (fs.mapM fun f => do pure (f.offset, ← sizeOf f.type) : Sem (Array (Nat × Nat))).run P w = .ok pl w)
    
  (hps : parts.toList.map (fun (i, x) => (i, ev e x)) = ps) (hf : Instr.fill (pl[·]?) z ps = some cells) (w : World) :
  (execOp (ev e) ⟨d, .build t parts, ty, pos, af, g⟩).run P w = .ok (.value (.agg cells)) w :=
 by
  have hz' : (Value.agg z).cells = z := rfl
  have hps' : (parts.map fun (i, x) => (i, ev e x)).toList = ps := by rw [← hps, Array.toList_map]
  simp only [execOp, Instr.build, Sem.run_bind, hz, hu, Result.andThen_ok, hpl, hps', hz', hf, Sem.run_pure]
end ops
end rules
end Go.Vc

namespace Go.Vc
open Go
def Jn (b : Nat) (cs : List Value) (T : TypeId) : Chunk where
 P S w := (∀ x, S x ↔ x = b) ∧ w.heap[b]? = some (.cells cs.toArray T (0, 0))
 loc S w w' h hp := ⟨hp.1, by rw [h b ((hp.1 b).2 rfl)]; exact hp.2⟩
def rdn : List Value → Nat → Option (List Value)
 | _, 0 => some []
 | [], _ + 1 => none
 | v :: r, k + 1 => (rdn r k).map (v :: ·)
def rd : List Value → Nat → Nat → Option (List Value)
 | cs, 0, k => rdn cs k
 | [], _ + 1, k => rdn [] k
 | _ :: r, o + 1, k => rd r o k
def wrn : List Value → List Value → Option (List Value)
 | cs, [] => some cs
 | [], _ :: _ => none
 | _ :: r, v :: vs => (wrn r vs).map (v :: ·)
def wr : List Value → Nat → List Value → Option (List Value)
 | cs, 0, vs => wrn cs vs
 | [], _ + 1, [] => some []
 | [], _ + 1, _ :: _ => none
 | c :: r, o + 1, vs => (wr r o vs).map (c :: ·)
def rg : List Value → Nat → Option Value
 | [], _ => none
 | v :: _, 0 => some v
 | _ :: r, k + 1 => rg r k
theorem rg_eq : ∀ (cs : List Value) (k : Nat), rg cs k = cs[k]?
 | [], _ => by simp [rg]
 | v :: r, 0 => by simp [rg]
 | v :: r, k + 1 => by simp [rg, rg_eq r k]
theorem rdn_get {cs : List Value} : ∀ {k : Nat} {vs : List Value}, rdn cs k = some vs → vs.length = k ∧ ∀ (j : Nat) (v : Value), vs[j]? = some v → cs[j]? = some v := by
 induction cs with
 | nil => intro k vs h; cases k <;> simp [rdn] at h; subst h; exact ⟨rfl, by simp⟩
 | cons c r ih =>
  intro k vs h
  cases k with
  | zero => simp [rdn] at h; subst h; exact ⟨rfl, by simp⟩
  | succ k =>
   simp only [rdn, Option.map_eq_some_iff] at h
   obtain ⟨x, hx, rfl⟩ := h
   obtain ⟨h1, h2⟩ := ih hx
   refine ⟨by simp [h1], fun j v hv => ?_⟩
   cases j with
   | zero => simpa using hv
   | succ j => simp at hv ⊢; exact h2 j v hv
theorem Jil {cs : List Value} {o k : Nat} {vs : List Value} (h : rd cs o k = some vs) : vs.length = k ∧ ∀ (j : Nat) (v : Value), vs[j]? = some v → cs[o + j]? = some v := by
 induction cs generalizing o with
 | nil =>
  cases o with
  | zero => simpa using rdn_get h
  | succ o =>
   obtain ⟨h1, h2⟩ := rdn_get (cs := []) (by simpa [rd] using h)
   exact ⟨h1, fun j v hv => by have := h2 j v hv; simp at this⟩
 | cons c r ih =>
  cases o with
  | zero => simpa using rdn_get h
  | succ o =>
   obtain ⟨h1, h2⟩ := ih (o := o) (by simpa [rd] using h)
   exact ⟨h1, fun j v hv => by have := h2 j v hv; rw [show o + 1 + j = (o + j) + 1 from by omega]; simpa using this⟩
theorem wrn_eq {cs vs cs' : List Value} (h : wrn cs vs = some cs') : vs.length ≤ cs.length ∧ cs' = vs ++ cs.drop vs.length := by
 induction vs generalizing cs cs' with
 | nil => cases cs <;> simp [wrn] at h <;> subst h <;> simp
 | cons v vs ih =>
  cases cs with
  | nil => simp [wrn] at h
  | cons c r =>
   simp only [wrn, Option.map_eq_some_iff] at h
   obtain ⟨x, hx, rfl⟩ := h
   obtain ⟨h1, h2⟩ := ih hx
   exact ⟨by simp; omega, by simp [h2]⟩
theorem wr_eq {cs vs cs' : List Value} {o : Nat} (h : wr cs o vs = some cs') (hne : 0 < vs.length) : o + vs.length ≤ cs.length ∧ cs' = cs.take o ++ vs ++ cs.drop (o + vs.length) := by
 induction cs generalizing o cs' with
 | nil =>
  cases o with
  | zero => obtain ⟨h1, h2⟩ := wrn_eq (cs := []) (by simpa [wr] using h); simp at h1; simp [h1] at hne
  | succ o => cases vs <;> simp [wr] at h hne
 | cons c r ih =>
  cases o with
  | zero => obtain ⟨h1, h2⟩ := wrn_eq (cs := c :: r) (by simpa [wr] using h); exact ⟨by simpa using h1, by simp [h2]⟩
  | succ o =>
   simp only [wr, Option.map_eq_some_iff] at h
   obtain ⟨x, hx, rfl⟩ := h
   obtain ⟨h1, h2⟩ := ih hx
   refine ⟨by simp; omega, ?_⟩
   rw [show o + 1 + vs.length = (o + vs.length) + 1 from by omega]
   simp [h2]
theorem Ja7 (w : World) (o : Obj) : Grow w (w.alloc o) := Go.RowKit.Below.alloc (Go.RowKit.Below.refl _ _) (Nat.le_refl _) o
theorem Jhe {P : Program} (t : TypeId) (v : Value) (w : World) : (newVar t v).run P w = .ok ⟨w.heap.size, 0, none⟩ (w.alloc (.cells v.cells t)) := by
 simp [newVar, newRow, newObj, Sem.run]
section rules
variable {P : Program} {n : Nat} {cx : Cx} {Q : Jax} {e : Xl} {L : List Chunk} {ops : Array Oper} {rest : List Oper}
variable {d : Nat} {ty : TypeId} {pos : String} {af : Array Edge} {g : Option (Nat × Bool)}
theorem sat_new {w : World} (hF : Fr cx w) (hS : Sat cx w L) (cs : List Value) (T : TypeId) : Sat cx (w.alloc (.cells cs.toArray T)) (L ++ [Jn w.heap.size cs T]) :=
 hS.snoc hF (Ja7 w _) (S := fun x => x = w.heap.size) ⟨fun _ => Iff.rfl, heap_alloc_new w _⟩ (fun b hb => by subst hb; exact ⟨Nat.le_refl _, by simp⟩)
theorem Vv {T : TypeId} {X : Operand} {x : Value} {cs : List Value} (hw : X3 ops ⟨some d, .box T X, ty, pos, af, g⟩ e = true) (hn : Nat.blt d n = true) (hx : ev e X = x) (hc : x.cells.toList = cs)
  (k : ∀ b, At cx (WL P n ops Q rest) (upd e d (.pointer (some ⟨b, 0, none⟩))) (L ++ [Jn b cs T])) : At cx (WL P n ops Q (⟨some d, .box T X, ty, pos, af, g⟩ :: rest)) e L :=
 Jeo hw rfl hn fun w hF hS => ⟨.pointer (some ⟨w.heap.size, 0, none⟩), w.alloc (.cells cs.toArray T), by
  subst hc
  simp [execOp, Instr.box, Jhe, hx], (k w.heap.size).out _ (hF.grow (Ja7 w _)) (sat_new hF hS cs T)⟩
theorem Xi {T : TypeId} {z : Value} {cs : List Value} (hz : ∀ w, (zeroValue T).run P w = .ok z w) (hc : z.cells.toList = cs) (hw : X3 ops ⟨some d, .alloc T, ty, pos, af, g⟩ e = true) (hn : Nat.blt d n = true)
  (k : ∀ b, At cx (WL P n ops Q rest) (upd e d (.pointer (some ⟨b, 0, none⟩))) (L ++ [Jn b cs T])) : At cx (WL P n ops Q (⟨some d, .alloc T, ty, pos, af, g⟩ :: rest)) e L :=
 Jeo hw rfl hn fun w hF hS => ⟨.pointer (some ⟨w.heap.size, 0, none⟩), w.alloc (.cells cs.toArray T), by
  subst hc
  simp [execOp, Instr.alloc, hz, Jhe], (k w.heap.size).out _ (hF.grow (Ja7 w _)) (sat_new hF hS cs T)⟩
theorem Ut {w : World} {i b : Nat} {cs : List Value} {T : TypeId} (hS : Sat cx w L) (hL : L[i]? = some (Jn b cs T)) : w.heap[b]? = some (.cells cs.toArray T (0, 0)) := by
 obtain ⟨fp, h1, _, _⟩ := hS.out
 exact (h1 i _ hL).2
theorem Jey {w : World} {b o : Nat} {cs : List Value} {T : TypeId} (h : w.heap[b]? = some (.cells cs.toArray T (0, 0))) : w.cell? ⟨b, o, none⟩ = cs[o]? := by
 simp [World.cell?, h]
theorem Ww {T k b o : Nat} {vs : List Value} {w : World} (hA : ∀ w, (isAgg T).run P w = .ok true w) (hs : ∀ w, (sizeOf T).run P w = .ok k w) (hl : vs.length = k)
  (h : ∀ j v, vs[j]? = some v → w.cell? ⟨b, o + j, none⟩ = some v) : (loadVar T ⟨b, o, none⟩).run P w = .ok (.agg vs.toArray) w := by
 subst hl
 have := run_loadCells_list (P := P) (w := w) ⟨b, o, none⟩ vs (fun j v hv => by rw [Addr.add_lit]; exact h j v hv)
 simp [loadVar, hA, hs, this]
theorem Jdu {T b o : Nat} {v : Value} {w : World} (hA : ∀ w, (isAgg T).run P w = .ok false w) (h : w.cell? ⟨b, o, none⟩ = some v) : (loadVar T ⟨b, o, none⟩).run P w = .ok v w := by
 simp [loadVar, hA, Go.load, Sem.run, h]
theorem Y7 {i : Nat} {T T0 b o : Nat} {A : Operand} {cs : List Value} {v : Value} (hA : ∀ w, (isAgg T).run P w = .ok false w)
  (hw : X3 ops ⟨some d, .load T A, ty, pos, af, g⟩ e = true) (hn : Nat.blt d n = true) (hp : ev e A = .pointer (some ⟨b, o, none⟩)) (hL : L[i]? = some (Jn b cs T0)) (hv : rg cs o = some v)
  (k : At cx (WL P n ops Q rest) (upd e d v) L) : At cx (WL P n ops Q (⟨some d, .load T A, ty, pos, af, g⟩ :: rest)) e L :=
 Jeo hw rfl hn fun w hF hS => ⟨v, w, by
  have hc := Jey (o := o) (Ut hS hL)
  rw [← rg_eq, hv] at hc
  simp [execOp, Instr.loadAt, Instr.sureAddr, hp, Jdu hA hc], k.out w hF hS⟩
theorem Q0 {i : Nat} {T T0 b o sz : Nat} {A : Operand} {cs vs : List Value} (hA : ∀ w, (isAgg T).run P w = .ok true w) (hs : ∀ w, (sizeOf T).run P w = .ok sz w)
  (hw : X3 ops ⟨some d, .load T A, ty, pos, af, g⟩ e = true) (hn : Nat.blt d n = true) (hp : ev e A = .pointer (some ⟨b, o, none⟩)) (hL : L[i]? = some (Jn b cs T0)) (hv : rd cs o sz = some vs)
  (k : At cx (WL P n ops Q rest) (upd e d (.agg vs.toArray)) L) : At cx (WL P n ops Q (⟨some d, .load T A, ty, pos, af, g⟩ :: rest)) e L :=
 Jeo hw rfl hn fun w hF hS => ⟨.agg vs.toArray, w, by
  obtain ⟨h1, h2⟩ := Jil hv
  have hr := Ww (P := P) (w := w) (b := b) (o := o) hA hs h1 (fun j v hj => by rw [Jey (Ut hS hL)]; exact h2 j v hj)
  simp [execOp, Instr.loadAt, Instr.sureAddr, hp, hr], k.out w hF hS⟩
theorem Qu {i : Nat} {T T0 b o sz : Nat} {A X : Operand} {x : Value} {cs cs' vs : List Value} (hs : ∀ w, (sizeOf T).run P w = .ok sz w)
  (hw : X3 ops ⟨none, .store T A X, ty, pos, af, g⟩ e = true) (hp : ev e A = .pointer (some ⟨b, o, none⟩)) (hx : ev e X = x) (hc : x.cells.toList = vs) (hsz : vs.length = sz) (hpos : Nat.blt 0 sz = true)
  (hone : vs.all Value.oneCell' = true)
  (hL : L[i]? = some (Jn b cs T0)) (hv : wr cs o vs = some cs')
  (k : At cx (WL P n ops Q rest) e (L.set i (Jn b cs' T0))) : At cx (WL P n ops Q (⟨none, .store T A X, ty, pos, af, g⟩ :: rest)) e L :=
 l_acts hw rfl fun w hF hS => by
  have hb := Ut hS hL
  have hpos' : 0 < vs.length := by rw [hsz]; simpa using hpos
  obtain ⟨h1, h2⟩ := wr_eq hv hpos'
  have hst := run_storeCells_at P b o T0 vs 0 cs.toArray w hb (by simpa using h1) (by simpa using hone)
  refine ⟨w.setRow b cs'.toArray, ?_, ?_⟩
  ·have hsz' : x.cells.size = sz := by rw [← hsz, ← hc]; simp
   simp only [Nat.add_zero, List.append_assoc] at hst
   simp only [execOp, Instr.storeAt, Instr.sureAddr, storeVar, hp, hx, Sem.run_bind, Sem.run_pure, Result.andThen_ok, hs, hsz', ne_eq, not_true_eq_false, if_false, hc, hst]
   rw [h2]; simp
  ·have hset := setRow_heap w b cs.toArray cs'.toArray T0 (0, 0) hb
   refine k.out _ ⟨hF.os, hF.tape, hF.output, by simpa using hF.size, fun c hcn => ?_⟩ ?_
   ·rw [setRow_other w b c _ (fun e => ?_)]
    ·exact hF.block c hcn
    ·obtain ⟨fp, f1, f2, _⟩ := hS.out
     have := (f2 i b ((f1 i _ hL).1 b |>.2 rfl)).2.2
     subst e
     exact hcn this
   ·refine hS.set hF hL (by simp) fun S hSp hSo => ⟨S, ⟨hSp.1, hset⟩, fun c hc => ⟨by simpa using (hSo c hc).1, .inl hc⟩, fun c _ hcS => setRow_other w b c _ (fun e => hcS ((hSp.1 c).2 e))⟩
theorem Jr {d : Option Nat} {T fld b o fo ft fsz bo : Nat} {nm tg pk : String} {em : Bool} {X : Operand} {fs : Array Field} (hu : ∀ w, (underlying T).run P w = .ok (.struct fs) w)
  (hf : fs[fld]? = some ⟨nm, ft, fo, em, tg, pk, bo⟩) (hs : ∀ w, (sizeOf ft).run P w = .ok fsz w) (hsz : Nat.blt 0 fsz = true) (hp : ev e X = .pointer (some ⟨b, o, none⟩)) (w : World) :
  (execOp (ev e) ⟨d, .fieldAddr T X fld, ty, pos, af, g⟩).run P w = .ok (.value (.pointer (some ⟨b, o + fo, none⟩))) w := by
 have hne : fsz ≠ 0 := by have : 0 < fsz := by simpa using hsz
                          omega
 simp [execOp, Instr.fieldAt, hu, hf, Instr.sureAddr, hp, fieldPlace, hs, hne, Addr.add_lit]
def Ret (P : Program) (f : FuncId) (args : List Value) (v : Value) : Prop := ∀ w, Does P f args.toArray w fun v' w' => v' = v ∧ Grow w w'
theorem Jfc {f : FuncId} {A : Array Operand} {tys : Array TypeId} {args : List Value} (hc : ∀ args w, (callFunc f args).run P w = .ok (.enter f args) w) (ha : A.toList.map (ev e) = args) (w : World) :
  (execOp (ev e) ⟨some d, .call ⟨.value (.func f), A, tys⟩, ty, pos, af, g⟩).run P w = .ok (.enter f args.toArray) w := by
 subst ha
 have : (A.toList.map (ev e)).toArray = A.map (ev e) := by rw [← Array.toList_map, Array.toArray_toList]
 rw [this]
 simp only [execOp, resolve, ev, Deferred.ofValue, Sem.run_bind, Sem.run_pure, Result.andThen_ok, invoke, hc, Array.append_empty, Array.empty_append]
theorem Qm {f : FuncId} {A : Array Operand} {tys : Array TypeId} {args : List Value} {v : Value} (h : Ret P f args v) (hc : ∀ args w, (callFunc f args).run P w = .ok (.enter f args) w)
  (hw : X3 ops ⟨some d, .call ⟨.value (.func f), A, tys⟩, ty, pos, af, g⟩ e = true) (hn : Nat.blt d n = true) (ha : A.toList.map (ev e) = args)
  (k : At cx (WL P n ops Q rest) (upd e d v) L) : At cx (WL P n ops Q (⟨some d, .call ⟨.value (.func f), A, tys⟩, ty, pos, af, g⟩ :: rest)) e L :=
 l_calls hw rfl hn (Jfc hc ha) fun w hF hS => (h w).mono fun v' w' ⟨hv, hg⟩ => by
  subst hv
  exact k.out w' (hF.grow hg) (hS.grow hg)
theorem results_one {fn : Func} {t : Tmp} (h : fn.results = #[.tmp t]) (tmps : Array Value) (w : World) : (results fn tmps).run P w = .ok (tmps.getD t undef) w := by
 simp [results, h]
theorem results_two {fn : Func} {t u : Tmp} (h : fn.results = #[.tmp t, .tmp u]) (tmps : Array Value) (w : World) : (results fn tmps).run P w = .ok (.tuple #[tmps.getD t undef, tmps.getD u undef]) w := by
 simp [results, h]
theorem Jkx {fn : Func} {t u s : Tmp} (h : fn.results = #[.tmp t, .tmp u, .tmp s]) (tmps : Array Value) (w : World) : (results fn tmps).run P w = .ok (.tuple #[tmps.getD t undef, tmps.getD u undef, tmps.getD s undef]) w := by
 simp [results, h]
theorem Ja1 {fn : Func} {R : Value → World → Prop} {t : Tmp} {v : Value} (hr : fn.results = #[.tmp t]) (ht : e t = v) (k : ∀ w, Fr cx w → Sat cx w L → R v w) : At cx (Jfh P fn R .ret) e L :=
 ⟨fun w hF hS tmps hs => ⟨v, by rw [results_one hr, hs, ht], k w hF hS⟩⟩
theorem Wh {fn : Func} {R : Value → World → Prop} {t u : Tmp} {v1 v2 : Value} (hr : fn.results = #[.tmp t, .tmp u]) (h1 : e t = v1) (h2 : e u = v2) (k : ∀ w, Fr cx w → Sat cx w L → R (.tuple #[v1, v2]) w) : At cx (Jfh P fn R .ret) e L :=
 ⟨fun w hF hS tmps hs => ⟨.tuple #[v1, v2], by rw [results_two hr, hs, hs, h1, h2], k w hF hS⟩⟩
theorem ret3 {fn : Func} {R : Value → World → Prop} {t u s : Tmp} {v1 v2 v3 : Value} (hr : fn.results = #[.tmp t, .tmp u, .tmp s]) (h1 : e t = v1) (h2 : e u = v2) (h3 : e s = v3) (k : ∀ w, Fr cx w → Sat cx w L → R (.tuple #[v1, v2, v3]) w) : At cx (Jfh P fn R .ret) e L :=
 ⟨fun w hF hS tmps hs => ⟨.tuple #[v1, v2, v3], by rw [Jkx hr, hs, hs, hs, h1, h2, h3], k w hF hS⟩⟩
theorem Jk0 {fn : Func} {t T b : Nat} {v : Value} (h : fn.results = #[.cell t T]) (tmps : Array Value) (w : World) (ht : tmps.getD t undef = .pointer (some ⟨b, 0, none⟩)) (hl : (loadVar T ⟨b, 0, none⟩).run P w = .ok v w) :
  (results fn tmps).run P w = .ok v w := by
 rw [Array.getD_eq_getD_getElem?] at ht
 simp [results, h, ht, asAddr, hl]
theorem Jki {fn : Func} {t T b u : Nat} {v : Value} (h : fn.results = #[.cell t T, .tmp u]) (tmps : Array Value) (w : World) (ht : tmps.getD t undef = .pointer (some ⟨b, 0, none⟩)) (hl : (loadVar T ⟨b, 0, none⟩).run P w = .ok v w) :
  (results fn tmps).run P w = .ok (.tuple #[v, tmps.getD u undef]) w := by
 rw [Array.getD_eq_getD_getElem?] at ht
 simp [results, h, ht, asAddr, hl]
theorem retC {i : Nat} {fn : Func} {R : Value → World → Prop} {t T T0 b sz : Nat} {cs vs : List Value} (hA : ∀ w, (isAgg T).run P w = .ok true w) (hs : ∀ w, (sizeOf T).run P w = .ok sz w) (hr : fn.results = #[.cell t T])
  (ht : e t = .pointer (some ⟨b, 0, none⟩)) (hL : L[i]? = some (Jn b cs T0)) (hv : rd cs 0 sz = some vs) (k : ∀ w, Fr cx w → Sat cx w L → R (.agg vs.toArray) w) : At cx (Jfh P fn R .ret) e L :=
 ⟨fun w hF hS tmps hts => ⟨.agg vs.toArray, by
  obtain ⟨h1, h2⟩ := Jil hv
  have hl := Ww (P := P) (w := w) (b := b) (o := 0) hA hs h1 (fun j v hj => by rw [Jey (Ut hS hL)]; exact h2 j v hj)
  exact Jk0 hr tmps w (by rw [hts, ht]) hl, k w hF hS⟩⟩
theorem Jcq {i : Nat} {fn : Func} {R : Value → World → Prop} {t T T0 b sz u : Nat} {cs vs : List Value} {v2 : Value} (hA : ∀ w, (isAgg T).run P w = .ok true w) (hs : ∀ w, (sizeOf T).run P w = .ok sz w) (hr : fn.results = #[.cell t T, .tmp u])
  (ht : e t = .pointer (some ⟨b, 0, none⟩)) (hL : L[i]? = some (Jn b cs T0)) (hv : rd cs 0 sz = some vs) (h2 : e u = v2) (k : ∀ w, Fr cx w → Sat cx w L → R (.tuple #[.agg vs.toArray, v2]) w) : At cx (Jfh P fn R .ret) e L :=
 ⟨fun w hF hS tmps hts => ⟨.tuple #[.agg vs.toArray, v2], by
  obtain ⟨h1, h2'⟩ := Jil hv
  have hl := Ww (P := P) (w := w) (b := b) (o := 0) hA hs h1 (fun j v hj => by rw [Jey (Ut hS hL)]; exact h2' j v hj)
  rw [Jki hr tmps w (by rw [hts, ht]) hl, hts, h2], k w hF hS⟩⟩
theorem fin {w0 : World} {L : List Chunk} {v v' : Value} (h : v' = v) : ∀ w, Fr ⟨w0, fun _ => False⟩ w → Sat ⟨w0, fun _ => False⟩ w L → (v' = v ∧ Grow w0 w) :=
 fun w hF _ => ⟨h, hF.os, hF.tape, hF.output, hF.size, fun k hk => hF.block k (by simp [Cx.own]; exact hk)⟩
theorem Qr {f : FuncId} {fn : Func} {c : Code} {args : List Value} {v : Value} (hf : P.funcs[f]? = some fn) (hb : fn.body = some c) (hn : fn.ntmps = n) (hle : Nat.ble args.length n = true)
  (h : ∀ w, At ⟨w, fun _ => False⟩ (WC P n c (Jfh P fn fun v' w' => v' = v ∧ Grow w w')) (lget args) []) : Ret P f args v :=
 fun w => enter hf hb hn hle (fun _ => False) [] (Sat.nil _ _) (h w)
def mkE : List (Nat × Value) → Xl → Xl
 | [], g => g
 | (a, v) :: r, g => fun t => bif Nat.beq t a then v else mkE r g t
def Jh4 (e : Xl) : List (Nat × Value) → Prop
 | [] => True
 | (a, v) :: r => e a = v ∧ Jh4 e r
theorem Jkf (e : Xl) : ∀ l, Jh4 e l → mkE l e = e
 | [], _ => rfl
 | (a, v) :: r, ⟨h, hr⟩ => by
  funext t
  simp only [mkE, beq_eq, Jkf e r hr]
  by_cases ht : t = a
  ·simp [ht, h]
  ·simp [ht]
structure RoundEnd {σ : Type} (cx : Cx) (st : σ → List (Nat × Value)) (hp : σ → List Chunk) (I : σ → Prop) (m : Nat) (μ : σ → Nat) (e : Xl) (w : World) : Prop where
 out : ∃ s, Jh4 e (st s) ∧ Fr cx w ∧ Sat cx w (hp s) ∧ I s ∧ μ s < m
end rules
end Go.Vc

namespace Go.Vc
open Go
inductive Kd where
 | p
 | g (rs rds wrs : List Nat) (V : List Value → List (Option Chunk) → Value → Prop) (T : List Value → List (Option Chunk) → Value → List Chunk)
def Kd.d (rds : List Nat) (v0 : Value) : Kd := .g [] rds [] (fun _ _ v => v = v0) (fun _ _ _ => [])
abbrev Look := Nat → Option Chunk
def look (L : List Chunk) : Look := fun i => L[i]?
def Kd.rs : Kd → List Nat | .p => [] | .g rs _ _ _ _ => rs
def Kd.rds : Kd → List Nat | .p => [] | .g _ rds _ _ _ => rds
def Kd.wrs : Kd → List Nat | .p => [] | .g _ _ wrs _ _ => wrs
def Kd.V (P : Program) (o : Oper) (s : Kd) (e : Xl) (l : Look) (v : Value) : Prop :=
 match s with
 | .p => ∀ w, (execOp (ev e) o).run P w = .ok (.value v) w
 | .g rs rds _ V _ => V (rs.map e) (rds.map l) v
def Kd.T (s : Kd) (e : Xl) (l : Look) (v : Value) : List (Nat × Chunk) :=
 match s with
 | .p => []
 | .g rs rds wrs _ T => wrs.zip (T (rs.map e) (rds.map l) v)
def Wb (L : List Chunk) : List (Nat × Chunk) → List Chunk
 | [] => L
 | (i, c) :: r => Wb (L.set i c) r
def Jdv (e : Xl) (d : Option Nat) (v : Value) : Xl := match d with | some d => upd e d v | none => e
def RunsTo (P : Program) (ρ : Operand → Value) (o : Oper) (w : World) (R : Value → World → Prop) : Prop :=
 match (execOp ρ o).run P w with
 | .ok (.value v) w' => R v w'
 | .ok .skip w' => R undef w'
 | .ok (.enter f args) w' => Does P f args w' R
 | _ => False
theorem RunsTo.mono {P : Program} {ρ : Operand → Value} {o : Oper} {w : World} {R R' : Value → World → Prop} (h : RunsTo P ρ o w R) (hr : ∀ v w', R v w' → R' v w') : RunsTo P ρ o w R' := by
 unfold RunsTo at *
 generalize (execOp ρ o).run P w = r at *
 cases r with
 | halt x w' => exact h
 | ok nx w' =>
  cases nx <;> first | exact hr _ _ h | exact Does.mono h hr | exact h
structure LV (P : Program) (cx : Cx) (o : Oper) (s : Kd) (e : Xl) (L : List Chunk) : Prop where
 out : ∀ (w : World) (L' : List Chunk), Fr cx w → Sat cx w L' → L'.length = L.length → (∀ i, i ∈ s.rds ∨ i ∈ s.wrs → L'[i]? = L[i]?) →
  RunsTo P (ev e) o w (fun v w' => s.V P o e (look L) v ∧ Fr cx w' ∧ Sat cx w' (Wb L' (s.T e (look L) v)))
inductive Sq (P : Program) (cx : Cx) (ops : Array Oper) (F : Xl → List Chunk → Prop) : List Oper → List Kd → Xl → List Chunk → Prop
 | nil {e : Xl} {L : List Chunk} (h : F e L) : Sq P cx ops F [] [] e L
 | pass {o : Oper} {os : List Oper} {s : Kd} {ss : List Kd} {e : Xl} {L : List Chunk} (hw : X3 ops o e = false) (h : Sq P cx ops F os ss (Jdv e o.dst undef) L) : Sq P cx ops F (o :: os) (s :: ss) e L
 | take {o : Oper} {os : List Oper} {s : Kd} {ss : List Kd} {e : Xl} {L : List Chunk} (hw : X3 ops o e = true) (hi : ∃ v, s.V P o e (look L) v) (hl : LV P cx o s e L)
   (h : ∀ v, s.V P o e (look L) v → Sq P cx ops F os ss (Jdv e o.dst v) (Wb L (s.T e (look L) v))) : Sq P cx ops F (o :: os) (s :: ss) e L
def binding (o : Oper) (i : Nat) : Bool := o.after.toList.any fun x => Region.binds .any x && Nat.beq x.on i
def Jg9 (l : List Oper) : Nat → Nat → Nat → Bool
 | 0, _, _ => false
 | f + 1, k, i =>
  match l[k]? with
  | none => false
  | some o => binding o i || o.after.toList.any fun x => Region.binds .any x && Jg9 l f x.on i
def Jh0 (a b : List Nat) : Bool := a.any fun x => b.any fun y => Nat.beq x y
def Jd0 (ops : Array Oper) (o1 o2 : Oper) (s1 s2 : Kd) : Bool :=
 Jh0 o1.dst.toList (o2.looksAt ops) || Jh0 o1.dst.toList o2.dst.toList || Jh0 o2.dst.toList (o1.looksAt ops) ||
 Jh0 s1.wrs s2.rds || Jh0 s1.wrs s2.wrs || Jh0 s1.rds s2.wrs
def subs (a b : List Nat) : Bool := a.all fun x => b.any fun y => Nat.beq x y
def checkD (n : Nat) (l : List Oper) (sp : List Kd) : Bool :=
 Nat.beq l.length sp.length && Region.noSelect l.toArray &&
 (List.range l.length).all fun k =>
  match l[k]?, sp[k]? with
  | some o, some s =>
   (o.after.toList.all fun x => !Region.binds .any x || Nat.blt x.on k) && (o.dst.all fun d => Nat.blt d n) && subs s.rs (o.looksAt l.toArray) &&
   (List.range k).all fun i =>
    match l[i]?, sp[i]? with
    | some o1, some s1 => !Jd0 l.toArray o1 o s1 s || Jg9 l 3 k i
    | _, _ => false
  | _, _ => false
theorem Jeq {a b : List Nat} {x : Nat} (ha : x ∈ a) (hb : x ∈ b) : Jh0 a b = true := by
 unfold Jh0
 rw [List.any_eq_true]
 exact ⟨x, ha, List.any_eq_true.2 ⟨x, hb, by simp⟩⟩
section sound
variable {P : Program} {n : Nat} {cx : Cx} {Q : Jax} {l : List Oper} {sp : List Kd} {e0 : Xl} {L0 : List Chunk}
def od (l : List Oper) (k : Nat) : Oper := l.getD k default
def sd (sp : List Kd) (k : Nat) : Kd := sp.getD k .p
def EL (P : Program) (l : List Oper) (sp : List Kd) (e0 : Xl) (L0 : List Chunk) (S : Nat → Bool) (val : Nat → Value) : Nat → Xl × List Chunk
 | 0 => (e0, L0)
 | k + 1 =>
  let x := EL P l sp e0 L0 S val k
  if S k then (Jdv x.1 (od l k).dst (val k), if X3 l.toArray (od l k) x.1 = true then Wb x.2 ((sd sp k).T x.1 (look x.2) (val k)) else x.2) else x
structure Ok (n : Nat) (l : List Oper) (sp : List Kd) : Prop where
 len : l.length = sp.length
 nosel : Region.noSelect l.toArray = true
 back : ∀ k x, k < l.length → x ∈ (od l k).after.toList → Region.binds .any x = true → x.on < k
 dst : ∀ k d, k < l.length → (od l k).dst = some d → Nat.blt d n = true
 rs : ∀ k t, k < l.length → t ∈ (sd sp k).rs → t ∈ (od l k).looksAt l.toArray
 ord : ∀ k i, k < l.length → i < k → Jd0 l.toArray (od l i) (od l k) (sd sp i) (sd sp k) = true → Jg9 l 3 k i = true
theorem ok_of (h : checkD n l sp = true) : Ok n l sp := by
 unfold checkD at h
 simp only [Bool.and_eq_true, List.all_eq_true, List.mem_range] at h
 obtain ⟨⟨h1, h2⟩, h3⟩ := h
 have hlen : l.length = sp.length := by simpa using h1
 have key : ∀ k, k < l.length → l[k]? = some (od l k) ∧ sp[k]? = some (sd sp k) := by
  intro k hk
  have hk' : k < sp.length := by omega
  exact ⟨by simp [od, List.getD_eq_getElem?_getD, List.getElem?_eq_getElem hk], by simp [sd, List.getD_eq_getElem?_getD, List.getElem?_eq_getElem hk']⟩
 have h4 : ∀ k, k < l.length → _ := fun k hk => by
  have := h3 k hk
  rw [(key k hk).1, (key k hk).2] at this
  simp only [Bool.and_eq_true, List.all_eq_true, List.mem_range] at this
  exact this
 refine ⟨hlen, h2, ?_, ?_, ?_, ?_⟩
 ·intro k x hk hx hb
  have := (h4 k hk).1.1.1
  have := this x hx
  simpa [hb] using this
 ·intro k d hk hd
  have := (h4 k hk).1.1.2
  rw [hd] at this
  simpa using this
 ·intro k t hk ht
  have := (h4 k hk).1.2
  unfold subs at this
  rw [List.all_eq_true] at this
  obtain ⟨y, hy, hyt⟩ := List.any_eq_true.1 (this t ht)
  have : t = y := by simpa using hyt
  rw [this]; exact hy
 ·intro k i hk hi hc
  have := (h4 k hk).2 i hi
  rw [(key i (by omega)).1, (key i (by omega)).2] at this
  simpa [hc] using this
def Ji3 (l : List Oper) (S : Nat → Prop) (k : Nat) : Prop := ∀ x ∈ (od l k).after.toList, Region.binds .any x = true → S x.on
theorem reach_in (S : Nat → Prop) (hS : ∀ k, k < l.length → S k → Ji3 l S k) (hb : ∀ k x, k < l.length → x ∈ (od l k).after.toList → Region.binds .any x = true → x.on < k) :
  ∀ f k i, k < l.length → Ji3 l S k → Jg9 l f k i = true → S i := by
 intro f
 induction f with
 | zero => intro k i _ _ h; simp [Jg9] at h
 | succ f ih =>
  intro k i hk hc h
  have hlk : l[k]? = some (od l k) := by simp [od, List.getD_eq_getElem?_getD, List.getElem?_eq_getElem hk]
  simp only [Jg9, hlk, Bool.or_eq_true] at h
  rcases h with h | h
  ·unfold binding at h
   rw [List.any_eq_true] at h
   obtain ⟨x, hx, hxb⟩ := h
   simp only [Bool.and_eq_true] at hxb
   have : x.on = i := by simpa using hxb.2
   rw [← this]
   exact hc x hx hxb.1
  ·rw [List.any_eq_true] at h
   obtain ⟨x, hx, hxb⟩ := h
   simp only [Bool.and_eq_true] at hxb
   have hlt := hb k x hk hx hxb.1
   exact ih x.on i (by omega) (hS x.on (by omega) (hc x hx hxb.1)) hxb.2
theorem Je3 (T : List (Nat × Chunk)) : ∀ L : List Chunk, (Wb L T).length = L.length := by
 induction T with
 | nil => intro L; rfl
 | cons p T ih => intro L; obtain ⟨i, c⟩ := p; simp [Wb, ih]
theorem W4 (T : List (Nat × Chunk)) : ∀ (L : List Chunk) (i : Nat), (∀ p ∈ T, p.1 ≠ i) → (Wb L T)[i]? = L[i]? := by
 induction T with
 | nil => intro L i _; rfl
 | cons p T ih =>
  intro L i h
  obtain ⟨j, c⟩ := p
  simp only [Wb]
  rw [ih _ i (fun p hp => h p (List.mem_cons_of_mem _ hp)), List.getElem?_set_ne]
  exact h (j, c) (List.mem_cons_self ..)
theorem Jgj (T : List (Nat × Chunk)) : ∀ (L L' : List Chunk) (i : Nat), L.length = L'.length → L[i]? = L'[i]? → (Wb L T)[i]? = (Wb L' T)[i]? := by
 induction T with
 | nil => intro L L' i _ h; exact h
 | cons p T ih =>
  intro L L' i hl h
  obtain ⟨j, c⟩ := p
  simp only [Wb]
  refine ih _ _ i (by simp [hl]) ?_
  by_cases hji : j = i
  ·subst hji
   rw [List.getElem?_set, List.getElem?_set, if_pos rfl, if_pos rfl, hl]
  ·rw [List.getElem?_set_ne hji, List.getElem?_set_ne hji, h]
theorem T_in (s : Kd) (e : Xl) (lk : Look) (v : Value) : ∀ p ∈ s.T e lk v, p.1 ∈ s.wrs := by
 intro p hp
 cases s with
 | p => simp [Kd.T] at hp
 | g rs rds wrs V T =>
  simp only [Kd.T] at hp
  exact (List.of_mem_zip (a := p.1) (b := p.2) hp).1
theorem T_loc (s : Kd) {e e' : Xl} {lk lk' : Look} (h1 : ∀ t ∈ s.rs, e t = e' t) (h2 : ∀ i ∈ s.rds, lk i = lk' i) (v : Value) : s.T e lk v = s.T e' lk' v := by
 cases s with
 | p => rfl
 | g rs rds wrs V T =>
  have h1' : rs.map e = rs.map e' := List.map_congr_left h1
  have h2' : rds.map lk = rds.map lk' := List.map_congr_left h2
  simp only [Kd.T, h1', h2']
theorem ev_loc {e e' : Xl} {o : Oper} (hs : ∀ cs b, o.op ≠ .select cs b) {ops : Array Oper} (h : ∀ t ∈ o.looksAt ops, e t = e' t) : execOp (ev e) o = execOp (ev e') o := by
 refine execOp_congr o hs fun x hx => ?_
 cases x with
 | tmp t => exact h t (List.mem_append_left _ (List.mem_filterMap.2 ⟨.tmp t, by simpa using hx, rfl⟩))
 | const v => rfl
 | global g => rfl
 | func f => rfl
theorem V_loc {o : Oper} (s : Kd) (hs : ∀ cs b, o.op ≠ .select cs b) {ops : Array Oper} {e e' : Xl} {lk lk' : Look} (h : ∀ t ∈ o.looksAt ops, e t = e' t) (h1 : ∀ t ∈ s.rs, e t = e' t) (h2 : ∀ i ∈ s.rds, lk i = lk' i) (v : Value) :
  s.V P o e lk v = s.V P o e' lk' v := by
 cases s with
 | p => simp only [Kd.V]; rw [ev_loc hs h]
 | g rs rds wrs V T =>
  have h1' : rs.map e = rs.map e' := List.map_congr_left h1
  have h2' : rds.map lk = rds.map lk' := List.map_congr_left h2
  simp only [Kd.V, h1', h2']
theorem V_locL {o : Oper} (s : Kd) (hs : ∀ cs b, o.op ≠ .select cs b) {ops : Array Oper} {e e' : Xl} {L L' : List Chunk} (h : ∀ t ∈ o.looksAt ops, e t = e' t) (h1 : ∀ t ∈ s.rs, e t = e' t) (h2 : ∀ i ∈ s.rds, L[i]? = L'[i]?) (v : Value) :
  s.V P o e (look L) v = s.V P o e' (look L') v := V_loc s hs h h1 h2 v
theorem Jeh {o : Oper} {ops : Array Oper} {e e' : Xl} (h : ∀ t ∈ o.looksAt ops, e t = e' t) : X3 ops o e = X3 ops o e' := by
 unfold X3
 cases hg : o.guard with
 | none => rfl
 | some jb =>
  obtain ⟨j, b⟩ := jb
  simp only
  cases hd : (ops[j]?).bind (·.dst) with
  | none => rfl
  | some d =>
   have : e d = e' d := h d (by unfold Oper.looksAt; rw [hg]; exact List.mem_append_right _ (by simp [hd]))
   simp only [this]
theorem Jim {e e' : Xl} {t : Nat} (d : Option Nat) (v : Value) (h : d ≠ some t → e t = e' t) : Jdv e d v t = Jdv e' d v t := by
 cases d with
 | none => exact h (by simp)
 | some d =>
  by_cases ht : t = d
  ·subst ht; simp [Jdv, upd_same]
  ·simp only [Jdv]; rw [upd_ne _ _ _ _ ht, upd_ne _ _ _ _ ht]; exact h (by simpa using fun h => ht h.symm)
theorem Jb8 {e : Xl} {t : Nat} {d : Option Nat} (v : Value) (h : d ≠ some t) : Jdv e d v t = e t := by
 cases d with
 | none => rfl
 | some d => simp only [Jdv]; exact upd_ne _ _ _ _ (by simpa using fun h' => h (by rw [h']))
theorem Jg1 (S : Nat → Bool) (val : Nat → Value) : ∀ k, (EL P l sp e0 L0 S val k).2.length = L0.length := by
 intro k
 induction k with
 | zero => rfl
 | succ k ih =>
  simp only [EL]
  split
  ·split
   ·simp [Je3, ih]
   ·exact ih
  ·exact ih
theorem Jkl {ops : Array Oper} {o1 o2 : Oper} {s1 s2 : Kd} {t : Nat} (h1 : o1.dst = some t) (h2 : t ∈ o2.looksAt ops) : Jd0 ops o1 o2 s1 s2 = true := by
 unfold Jd0; rw [Jeq (a := o1.dst.toList) (x := t) (by simp [h1]) h2]; rfl
theorem clash_dd {ops : Array Oper} {o1 o2 : Oper} {s1 s2 : Kd} {t : Nat} (h1 : o1.dst = some t) (h2 : o2.dst = some t) : Jd0 ops o1 o2 s1 s2 = true := by
 unfold Jd0; rw [Jeq (a := o1.dst.toList) (b := o2.dst.toList) (x := t) (by simp [h1]) (by simp [h2])]; simp
theorem clash_ld {ops : Array Oper} {o1 o2 : Oper} {s1 s2 : Kd} {t : Nat} (h1 : t ∈ o1.looksAt ops) (h2 : o2.dst = some t) : Jd0 ops o1 o2 s1 s2 = true := by
 unfold Jd0; rw [Jeq (a := o2.dst.toList) (x := t) (by simp [h2]) h1]; simp
theorem Jhz {ops : Array Oper} {o1 o2 : Oper} {s1 s2 : Kd} {i : Nat} (h1 : i ∈ s1.wrs) (h2 : i ∈ s2.rds ∨ i ∈ s2.wrs) : Jd0 ops o1 o2 s1 s2 = true := by
 unfold Jd0
 rcases h2 with h2 | h2
 ·rw [Jeq h1 h2]; simp
 ·rw [Jeq (a := s1.wrs) (b := s2.wrs) h1 h2]; simp
theorem clash_rw {ops : Array Oper} {o1 o2 : Oper} {s1 s2 : Kd} {i : Nat} (h1 : i ∈ s1.rds ∨ i ∈ s1.wrs) (h2 : i ∈ s2.wrs) : Jd0 ops o1 o2 s1 s2 = true := by
 unfold Jd0
 rcases h1 with h1 | h1
 ·rw [Jeq (a := s1.rds) (b := s2.wrs) h1 h2]; simp
 ·rw [Jeq (a := s1.wrs) (b := s2.wrs) h1 h2]; simp
theorem EL_agree (ok : Ok n l sp) {S S' : Nat → Bool} {val val' : Nat → Value} :
  ∀ k, k < l.length → (∀ i, i < k → Jg9 l 3 k i = true → S i ∧ S' i ∧ val i = val' i) →
   (∀ i, i < k → S i → S' i → val i = val' i ∧
    ((∀ t ∈ (od l i).looksAt l.toArray, (EL P l sp e0 L0 S val i).1 t = (EL P l sp e0 L0 S' val' i).1 t) ∧
     (∀ r, r ∈ (sd sp i).rds ∨ r ∈ (sd sp i).wrs → (EL P l sp e0 L0 S val i).2[r]? = (EL P l sp e0 L0 S' val' i).2[r]?))) →
   ∀ j, j ≤ k → (∀ t ∈ (od l k).looksAt l.toArray, (EL P l sp e0 L0 S val j).1 t = (EL P l sp e0 L0 S' val' j).1 t) ∧
    (∀ r, r ∈ (sd sp k).rds ∨ r ∈ (sd sp k).wrs → (EL P l sp e0 L0 S val j).2[r]? = (EL P l sp e0 L0 S' val' j).2[r]?) := by
 intro k hk hcl hin j
 induction j with
 | zero => intro _; exact ⟨fun _ _ => rfl, fun _ _ => rfl⟩
 | succ j ih =>
  intro hj
  obtain ⟨ih1, ih2⟩ := ih (by omega)
  by_cases hb : S j ∧ S' j
  ·obtain ⟨hv, hl1, hl2⟩ := hin j (by omega) hb.1 hb.2
   have hw : X3 l.toArray (od l j) (EL P l sp e0 L0 S val j).1 = X3 l.toArray (od l j) (EL P l sp e0 L0 S' val' j).1 := Jeh hl1
   have hT : (sd sp j).T (EL P l sp e0 L0 S val j).1 (look (EL P l sp e0 L0 S val j).2) (val j) = (sd sp j).T (EL P l sp e0 L0 S' val' j).1 (look (EL P l sp e0 L0 S' val' j).2) (val' j) := by
    rw [hv]
    exact T_loc _ (fun t ht => hl1 t (ok.rs j t (by omega) ht)) (fun i hi => hl2 i (.inl hi)) _
   simp only [EL, if_pos hb.1, if_pos hb.2]
   refine ⟨fun t ht => ?_, fun r hr => ?_⟩
   ·rw [hv]; exact Jim _ _ (fun _ => ih1 t ht)
   ·rw [hw, hT]
    split
    ·exact Jgj _ _ _ r (by rw [Jg1, Jg1]) (ih2 r hr)
    ·exact ih2 r hr
  ·have hnr : ¬ Jg9 l 3 k j = true := fun hr => hb ⟨(hcl j (by omega) hr).1, (hcl j (by omega) hr).2.1⟩
   have hnc : ¬ Jd0 l.toArray (od l j) (od l k) (sd sp j) (sd sp k) = true := fun hc => hnr (ok.ord k j hk (by omega) hc)
   have one : ∀ (X : Nat → Bool) (va : Nat → Value), (∀ t ∈ (od l k).looksAt l.toArray, (EL P l sp e0 L0 X va (j + 1)).1 t = (EL P l sp e0 L0 X va j).1 t) ∧
     (∀ r, r ∈ (sd sp k).rds ∨ r ∈ (sd sp k).wrs → (EL P l sp e0 L0 X va (j + 1)).2[r]? = (EL P l sp e0 L0 X va j).2[r]?) := by
    intro X va
    simp only [EL]
    split
    ·refine ⟨fun t ht => ?_, fun r hr => ?_⟩
     ·exact Jb8 _ (fun hd => hnc (Jkl hd ht))
     ·split
      ·exact W4 _ _ r (fun p hp hpr => hnc (Jhz (by rw [← hpr]; exact T_in _ _ _ _ p hp) hr))
      ·rfl
    ·exact ⟨fun _ _ => rfl, fun _ _ => rfl⟩
   refine ⟨fun t ht => ?_, fun r hr => ?_⟩
   ·rw [(one S val).1 t ht, (one S' val').1 t ht]; exact ih1 t ht
   ·rw [(one S val).2 r hr, (one S' val').2 r hr]; exact ih2 r hr
def Sc (l : List Oper) (S : Nat → Bool) : Prop := ∀ k, k < l.length → S k = true → Ji3 l (fun i => S i = true) k
theorem Jbl (ok : Ok n l sp) {S : Nat → Bool} (hS : Sc l S) {k i : Nat} (hk : k < l.length) (hc : Ji3 l (fun i => S i = true) k) (h : Jg9 l 3 k i = true) : S i = true :=
 reach_in (fun i => S i = true) (fun k hk h => hS k hk h) ok.back 3 k i hk hc h
theorem agree_all (ok : Ok n l sp) {S S' : Nat → Bool} {val val' : Nat → Value} (hS : Sc l S) (hS' : ∀ i, S i = true → S' i = true) (hv : ∀ i, S i = true → val i = val' i) :
  ∀ k, k < l.length → Ji3 l (fun i => S i = true) k → (∀ t ∈ (od l k).looksAt l.toArray, (EL P l sp e0 L0 S val k).1 t = (EL P l sp e0 L0 S' val' k).1 t) ∧
    (∀ r, r ∈ (sd sp k).rds ∨ r ∈ (sd sp k).wrs → (EL P l sp e0 L0 S val k).2[r]? = (EL P l sp e0 L0 S' val' k).2[r]?) := by
 intro k
 induction k using Nat.strongRecOn with
 | _ k ih =>
  intro hk hc
  exact EL_agree ok k hk (fun i hi hr => ⟨Jbl ok hS hk hc hr, hS' i (Jbl ok hS hk hc hr), hv i (Jbl ok hS hk hc hr)⟩)
   (fun i hi hs _ => ⟨hv i hs, ih i hi (by omega) (hS i (by omega) hs)⟩) k (Nat.le_refl _)
theorem EL_congr (S : Nat → Bool) {val val' : Nat → Value} : ∀ k, (∀ i, i < k → val i = val' i) → EL P l sp e0 L0 S val k = EL P l sp e0 L0 S val' k := by
 intro k
 induction k with
 | zero => intro _; rfl
 | succ k ih =>
  intro h
  simp only [EL]
  rw [ih (fun i hi => h i (by omega)), h k (by omega)]
def Cons (P : Program) (l : List Oper) (sp : List Kd) (e0 : Xl) (L0 : List Chunk) (S : Nat → Bool) (val : Nat → Value) (k : Nat) : Prop :=
 ∀ j, j < k → S j = true → if X3 l.toArray (od l j) (EL P l sp e0 L0 S val j).1 = true then (sd sp j).V P (od l j) (EL P l sp e0 L0 S val j).1 (look (EL P l sp e0 L0 S val j).2) (val j) else val j = undef
def full : Nat → Bool := fun _ => true
theorem drop_od {k : Nat} (hk : k < l.length) : l.drop k = od l k :: l.drop (k + 1) := by
 rw [List.drop_eq_getElem_cons hk]; simp [od, List.getD_eq_getElem?_getD, List.getElem?_eq_getElem hk]
theorem drop_sd {k : Nat} (hk : k < sp.length) : sp.drop k = sd sp k :: sp.drop (k + 1) := by
 rw [List.drop_eq_getElem_cons hk]; simp [sd, List.getD_eq_getElem?_getD, List.getElem?_eq_getElem hk]
theorem sq_at (ok : Ok n l sp) {F : Xl → List Chunk → Prop} (h : Sq P cx l.toArray F l sp e0 L0) : ∀ k, k ≤ l.length → ∀ val, Cons P l sp e0 L0 full val k →
  Sq P cx l.toArray F (l.drop k) (sp.drop k) (EL P l sp e0 L0 full val k).1 (EL P l sp e0 L0 full val k).2 := by
 intro k
 induction k with
 | zero => intro _ _ _; simpa [EL] using h
 | succ k ih =>
  intro hk val hc
  have h0 := ih (by omega) val (fun j hj => hc j (by omega))
  rw [drop_od (by omega), drop_sd (by have := ok.len; omega)] at h0
  have hck := hc k (by omega) rfl
  simp only [EL, full, if_true]
  cases h0 with
  | pass hw h1 =>
   rw [if_neg (by rw [hw]; simp)] at hck
   rw [if_neg (by rw [hw]; simp), hck]
   exact h1
  | take hw hi hl h1 =>
   rw [if_pos hw] at hck
   rw [if_pos hw]
   exact h1 _ hck
theorem fill (ok : Ok n l sp) {F : Xl → List Chunk → Prop} (h : Sq P cx l.toArray F l sp e0 L0) {S : Nat → Bool} {val : Nat → Value} (hS : Sc l S) (hc : Cons P l sp e0 L0 S val l.length) :
  ∀ k, k ≤ l.length → ∃ val', (∀ i, S i = true → val' i = val i) ∧ Cons P l sp e0 L0 full val' k := by
 intro k
 induction k with
 | zero => intro _; exact ⟨val, fun _ _ => rfl, fun j hj => by omega⟩
 | succ k ih =>
  intro hk
  obtain ⟨val', hv, hcf⟩ := ih (by omega)
  by_cases hSk : S k = true
  ·refine ⟨val', hv, fun j hj hf => ?_⟩
   by_cases hjk : j = k
   ·subst hjk
    have hj' := hc j (by omega) hSk
    obtain ⟨a1, a2⟩ := agree_all (P := P) (e0 := e0) (L0 := L0) ok (S' := full) (val' := val') hS (fun _ _ => rfl) (fun i hi => (hv i hi).symm) j (by omega) (hS j (by omega) hSk)
    rw [← Jeh (ops := l.toArray) a1, hv j hSk]
    split
    ·rename_i hw
     rw [if_pos hw] at hj'
     rw [← V_loc (lk := look (EL P l sp e0 L0 S val j).2) (lk' := look (EL P l sp e0 L0 full val' j).2) (sd sp j) (Region.noSelect_spec ok.nosel j _ · · (by simp [od, List.getD_eq_getElem?_getD, List.getElem?_eq_getElem (show j < l.length by omega)])) (ops := l.toArray) a1 (fun t ht => a1 t (ok.rs j t (by omega) ht)) (fun i hi => a2 i (.inl hi))]
     exact hj'
    ·rename_i hw
     rw [if_neg hw] at hj'
     exact hj'
   ·exact hcf j (by omega) hf
  ·have h0 := sq_at ok h k (by omega) val' hcf
   rw [drop_od (by omega), drop_sd (by have := ok.len; omega)] at h0
   have fin : ∀ v : Value, (if X3 l.toArray (od l k) (EL P l sp e0 L0 full val' k).1 = true then (sd sp k).V P (od l k) (EL P l sp e0 L0 full val' k).1 (look (EL P l sp e0 L0 full val' k).2) v else v = undef) →
     ∃ val'', (∀ i, S i = true → val'' i = val i) ∧ Cons P l sp e0 L0 full val'' (k + 1) := by
    intro v hvv
    refine ⟨fun i => if i = k then v else val' i, fun i hi => ?_, fun j hj hf => ?_⟩
    ·have : i ≠ k := fun e => hSk (by rw [← e]; exact hi)
     simp [this, hv i hi]
    ·have he : EL P l sp e0 L0 full (fun i => if i = k then v else val' i) j = EL P l sp e0 L0 full val' j := EL_congr full j (fun i hi => by
      have : i ≠ k := by omega
      simp [this])
     rw [he]
     by_cases hjk : j = k
     ·subst hjk
      simpa using hvv
     ·simp only [hjk, if_false]
      exact hcf j (by omega) hf
   cases h0 with
   | pass hw h1 => exact fin undef (by rw [if_neg (by rw [hw]; simp)])
   | take hw hi hl h1 =>
    obtain ⟨v, hv'⟩ := hi
    exact fin v (by rw [if_pos hw]; exact hv')
theorem tail_agree (ok : Ok n l sp) {S : Nat → Bool} {val : Nat → Value} (hS : Sc l S) {k : Nat} (hSk : S k = false) :
  ∀ j, k ≤ j → j ≤ l.length → (∀ t ∈ (od l k).looksAt l.toArray, (EL P l sp e0 L0 S val j).1 t = (EL P l sp e0 L0 S val k).1 t) ∧
    (∀ r, r ∈ (sd sp k).rds ∨ r ∈ (sd sp k).wrs → (EL P l sp e0 L0 S val j).2[r]? = (EL P l sp e0 L0 S val k).2[r]?) := by
 intro j hj
 obtain ⟨d, rfl⟩ := Nat.exists_eq_add_of_le hj
 clear hj
 induction d with
 | zero => intro _; exact ⟨fun _ _ => rfl, fun _ _ => rfl⟩
 | succ d ih =>
  intro hjl
  obtain ⟨a1, a2⟩ := ih (by omega)
  rw [show k + (d + 1) = (k + d) + 1 from rfl] at *
  generalize hjd : k + d = j at *
  have hj : k ≤ j := by omega
  simp only [EL]
  by_cases hSj : S j = true
  ·have hjk : k < j := by
    rcases Nat.lt_or_ge k j with h | h
    ·exact h
    ·have : j = k := by omega
     rw [this, hSk] at hSj; cases hSj
   have hnc : ¬ Jd0 l.toArray (od l k) (od l j) (sd sp k) (sd sp j) = true := fun hc => by
    have := Jbl ok hS (by omega) (hS j (by omega) hSj) (ok.ord j k (by omega) hjk hc)
    rw [hSk] at this; cases this
   rw [if_pos hSj]
   refine ⟨fun t ht => ?_, fun r hr => ?_⟩
   ·rw [← a1 t ht]
    exact Jb8 _ (fun hd => hnc (clash_ld ht hd))
   ·rw [← a2 r hr]
    show (if _ then _ else _)[r]? = _
    split
    ·exact W4 _ _ r (fun p hp hpr => hnc (clash_rw hr (by rw [← hpr]; exact T_in _ _ _ _ p hp)))
    ·rfl
  ·rw [if_neg hSj]
   exact ⟨a1, a2⟩
theorem putD_comm {e : Xl} {d1 d2 : Option Nat} {v1 v2 : Value} (h : ∀ t, d1 = some t → d2 ≠ some t) : Jdv (Jdv e d1 v1) d2 v2 = Jdv (Jdv e d2 v2) d1 v1 := by
 funext t
 by_cases h1 : d1 = some t
 ·have h2 := h t h1
  subst h1
  rw [Jb8 _ h2]
  exact Jim _ _ (fun hh => absurd rfl hh)
 ·rw [Jb8 (d := d1) _ h1]
  exact Jim _ _ (fun _ => Jb8 _ h1)
theorem setAll_comm (A B : List (Nat × Chunk)) (L : List Chunk) (h : ∀ p ∈ A, ∀ q ∈ B, p.1 ≠ q.1) : Wb (Wb L A) B = Wb (Wb L B) A := by
 apply List.ext_getElem?
 intro i
 by_cases hA : ∃ p ∈ A, p.1 = i
 ·obtain ⟨p, hp, hpi⟩ := hA
  rw [W4 B _ i (fun q hq hqi => h p hp q hq (by omega))]
  exact Jgj A _ _ i (by simp [Je3]) (W4 B _ i (fun q hq hqi => h p hp q hq (by omega))).symm
 ·have hA' : ∀ p ∈ A, p.1 ≠ i := fun p hp hpi => hA ⟨p, hp, hpi⟩
  rw [W4 A _ i hA']
  exact Jgj B _ _ i (by simp [Je3]) (W4 A _ i hA')
def Ui (S : Nat → Bool) (k : Nat) : Nat → Bool := fun i => if i = k then true else S i
def Je7 (val : Nat → Value) (k : Nat) (v : Value) : Nat → Value := fun i => if i = k then v else val i
theorem Jkj (S : Nat → Bool) (val : Nat → Value) (k : Nat) (v : Value) : ∀ j, j ≤ k → EL P l sp e0 L0 (Ui S k) (Je7 val k v) j = EL P l sp e0 L0 S val j := by
 intro j
 induction j with
 | zero => intro _; rfl
 | succ j ih =>
  intro hj
  have hjk : j ≠ k := by omega
  simp only [EL, ih (by omega), Ui, Je7, hjk, if_false]
theorem EL_step (ok : Ok n l sp) {S : Nat → Bool} {val : Nat → Value} (hS : Sc l S) {k : Nat} (hSk : S k = false) (v : Value) :
  ∀ j, k + 1 ≤ j → j ≤ l.length → EL P l sp e0 L0 (Ui S k) (Je7 val k v) j =
   (Jdv (EL P l sp e0 L0 S val j).1 (od l k).dst v, if X3 l.toArray (od l k) (EL P l sp e0 L0 S val k).1 = true then Wb (EL P l sp e0 L0 S val j).2 ((sd sp k).T (EL P l sp e0 L0 S val k).1 (look (EL P l sp e0 L0 S val k).2) v) else (EL P l sp e0 L0 S val j).2) := by
 intro j hj
 obtain ⟨d, rfl⟩ := Nat.exists_eq_add_of_le hj
 clear hj
 induction d with
 | zero =>
  intro _
  have h1 : EL P l sp e0 L0 (Ui S k) (Je7 val k v) (k + 1) = _ := rfl
  rw [h1]
  simp only [EL, Jkj S val k v k (Nat.le_refl _), Ui, Je7, if_true, hSk]
  rfl
 | succ d ih =>
  intro hjl
  have ih := ih (by omega)
  rw [show k + 1 + (d + 1) = (k + 1 + d) + 1 from rfl] at *
  generalize hjd : k + 1 + d = j at *
  have hjk : j ≠ k := by omega
  by_cases hSj : S j = true
  ·have hnc : ¬ Jd0 l.toArray (od l k) (od l j) (sd sp k) (sd sp j) = true := fun hc => by
    have := Jbl ok hS (by omega) (hS j (by omega) hSj) (ok.ord j k (by omega) (by omega) hc)
    rw [hSk] at this; cases this
   have e1 : ∀ t ∈ (od l j).looksAt l.toArray, Jdv (EL P l sp e0 L0 S val j).1 (od l k).dst v t = (EL P l sp e0 L0 S val j).1 t :=
    fun t ht => Jb8 _ (fun hd => hnc (Jkl hd ht))
   have e2 : ∀ r, r ∈ (sd sp j).rds ∨ r ∈ (sd sp j).wrs → (if X3 l.toArray (od l k) (EL P l sp e0 L0 S val k).1 = true then Wb (EL P l sp e0 L0 S val j).2 ((sd sp k).T (EL P l sp e0 L0 S val k).1 (look (EL P l sp e0 L0 S val k).2) v) else (EL P l sp e0 L0 S val j).2)[r]? = (EL P l sp e0 L0 S val j).2[r]? := by
    intro r hr
    split
    ·exact W4 _ _ r (fun p hp hpr => hnc (Jhz (by rw [← hpr]; exact T_in _ _ _ _ p hp) hr))
    ·rfl
   have hT := T_loc (sd sp j) (e := Jdv (EL P l sp e0 L0 S val j).1 (od l k).dst v) (e' := (EL P l sp e0 L0 S val j).1)
    (lk := look (if X3 l.toArray (od l k) (EL P l sp e0 L0 S val k).1 = true then Wb (EL P l sp e0 L0 S val j).2 ((sd sp k).T (EL P l sp e0 L0 S val k).1 (look (EL P l sp e0 L0 S val k).2) v) else (EL P l sp e0 L0 S val j).2)) (lk' := look (EL P l sp e0 L0 S val j).2)
    (fun t ht => e1 t (ok.rs j t (by omega) ht)) (fun i hi => e2 i (.inl hi)) (val j)
   have hw := Jeh (ops := l.toArray) e1
   have h1 : EL P l sp e0 L0 (Ui S k) (Je7 val k v) (j + 1) = (Jdv (EL P l sp e0 L0 (Ui S k) (Je7 val k v) j).1 (od l j).dst (val j), if X3 l.toArray (od l j) (EL P l sp e0 L0 (Ui S k) (Je7 val k v) j).1 = true then Wb (EL P l sp e0 L0 (Ui S k) (Je7 val k v) j).2 ((sd sp j).T (EL P l sp e0 L0 (Ui S k) (Je7 val k v) j).1 (look (EL P l sp e0 L0 (Ui S k) (Je7 val k v) j).2) (val j)) else (EL P l sp e0 L0 (Ui S k) (Je7 val k v) j).2) := by
    simp [EL, Ui, Je7, hjk, hSj]
   have h2 : EL P l sp e0 L0 S val (j + 1) = (Jdv (EL P l sp e0 L0 S val j).1 (od l j).dst (val j), if X3 l.toArray (od l j) (EL P l sp e0 L0 S val j).1 = true then Wb (EL P l sp e0 L0 S val j).2 ((sd sp j).T (EL P l sp e0 L0 S val j).1 (look (EL P l sp e0 L0 S val j).2) (val j)) else (EL P l sp e0 L0 S val j).2) := by
    simp [EL, hSj]
   rw [h1, h2, ih]
   simp only
   rw [hw, hT]
   refine Prod.ext ?_ ?_
   ·exact putD_comm (fun t ht1 ht2 => hnc (clash_dd ht1 ht2))
   ·show (if _ then _ else _) = (if _ then _ else _)
    by_cases hwj : X3 l.toArray (od l j) (EL P l sp e0 L0 S val j).1 = true <;> by_cases hwk : X3 l.toArray (od l k) (EL P l sp e0 L0 S val k).1 = true
    ·simp only [hwj, hwk, if_true]
     exact setAll_comm _ _ _ (fun p hp q hq hpq => hnc (Jhz (T_in _ _ _ _ p hp) (.inr (by rw [hpq]; exact T_in _ _ _ _ q hq))))
    ·simp only [hwj, hwk, if_true]; rfl
    ·simp only [hwj, hwk, if_true]; rfl
    ·simp only [hwj, hwk]; rfl
  ·have h1 : EL P l sp e0 L0 (Ui S k) (Je7 val k v) (j + 1) = EL P l sp e0 L0 (Ui S k) (Je7 val k v) j := by
    simp [EL, Ui, hjk, hSj]
   have h2 : EL P l sp e0 L0 S val (j + 1) = EL P l sp e0 L0 S val j := by simp [EL, hSj]
   rw [h1, h2, ih]
def Q8 (listed : Array Bool) : Nat → Bool := fun k => listed.getD k false
theorem cons_step (ok : Ok n l sp) {S : Nat → Bool} {val : Nat → Value} (hS : Sc l S) {k : Nat} (hk : k < l.length) (hSk : S k = false) (hc : Cons P l sp e0 L0 S val l.length) {v : Value}
  (hv : if X3 l.toArray (od l k) (EL P l sp e0 L0 S val k).1 = true then (sd sp k).V P (od l k) (EL P l sp e0 L0 S val k).1 (look (EL P l sp e0 L0 S val k).2) v else v = undef) :
  Cons P l sp e0 L0 (Ui S k) (Je7 val k v) l.length := by
 intro j hj hSj
 by_cases hjk : j = k
 ·subst hjk
  rw [Jkj S val j v j (Nat.le_refl _)]
  simpa [Je7] using hv
 ·have hSj' : S j = true := by simpa [Ui, hjk] using hSj
  have hcj := hc j hj hSj'
  have hval : Je7 val k v j = val j := by simp [Je7, hjk]
  rw [hval]
  by_cases hlt : j < k
  ·rw [Jkj S val k v j (by omega)]
   exact hcj
  ·have hkj : k < j := by omega
   have hnc : ¬ Jd0 l.toArray (od l k) (od l j) (sd sp k) (sd sp j) = true := fun hh => by
    have := Jbl ok hS hj (hS j hj hSj') (ok.ord j k hj hkj hh)
    rw [hSk] at this; cases this
   rw [EL_step ok hS hSk v j (by omega) (by omega)]
   have e1 : ∀ t ∈ (od l j).looksAt l.toArray, Jdv (EL P l sp e0 L0 S val j).1 (od l k).dst v t = (EL P l sp e0 L0 S val j).1 t :=
    fun t ht => Jb8 _ (fun hd => hnc (Jkl hd ht))
   have e2 : ∀ r, r ∈ (sd sp j).rds ∨ r ∈ (sd sp j).wrs → (if X3 l.toArray (od l k) (EL P l sp e0 L0 S val k).1 = true then Wb (EL P l sp e0 L0 S val j).2 ((sd sp k).T (EL P l sp e0 L0 S val k).1 (look (EL P l sp e0 L0 S val k).2) v) else (EL P l sp e0 L0 S val j).2)[r]? = (EL P l sp e0 L0 S val j).2[r]? := by
    intro r hr
    split
    ·exact W4 _ _ r (fun p hp hpr => hnc (Jhz (by rw [← hpr]; exact T_in _ _ _ _ p hp) hr))
    ·rfl
   simp only
   rw [Jeh (ops := l.toArray) e1]
   split
   ·rename_i hw
    rw [if_pos hw] at hcj
    rw [V_locL (L' := (EL P l sp e0 L0 S val j).2) (sd sp j) (Region.noSelect_spec ok.nosel j _ · · (by simp [od, List.getD_eq_getElem?_getD, List.getElem?_eq_getElem hj])) (ops := l.toArray) e1 (fun t ht => e1 t (ok.rs j t hj ht)) (fun i hi => e2 i (.inl hi))]
    exact hcj
   ·rename_i hw
    rw [if_neg hw] at hcj
    exact hcj
theorem ready_mem {md : Region.Mode} {ops : Array Oper} {listed : Array Bool} {k : Nat} (h : k ∈ Region.ready md ops listed) :
  k < ops.size ∧ listed.getD k true = false ∧ ∃ o, ops[k]? = some o ∧ ∀ x ∈ o.after.toList, Region.binds md x = true → listed.getD x.on false = true := by
 unfold Region.ready at h
 rw [List.mem_filter] at h
 obtain ⟨h1, h2⟩ := h
 rw [List.mem_range] at h1
 simp only [Bool.and_eq_true, Bool.not_eq_true'] at h2
 obtain ⟨h2, h3⟩ := h2
 refine ⟨h1, h2, ops[k], Array.getElem?_eq_getElem h1, fun x hx hb => ?_⟩
 rw [Array.getElem?_eq_getElem h1] at h3
 simp only [Option.map_some, Option.getD_some] at h3
 have := Array.all_eq_true_iff_forall_mem.1 h3 x (by simpa using hx)
 simpa [hb] using this
theorem any_of (ok : Ok n l sp) (h : Sq P cx l.toArray (fun e L => At cx (Q .normal) e L) l sp e0 L0) : ∀ (fuel : Nat) (listed : Array Bool) (a : Act) (w : World) (val : Nat → Value), listed.size = l.length →
  Sc l (Q8 listed) → Cons P l sp e0 L0 (Q8 listed) val l.length →
  ((List.range l.length).filter fun k => !Q8 listed k).length ≤ fuel →
  Sim n a (EL P l sp e0 L0 (Q8 listed) val l.length).1 → Fr cx w → Sat cx w (EL P l sp e0 L0 (Q8 listed) val l.length).2 →
  wpAny P .any l.toArray (lift n Q) fuel listed a w := by
 have final : ∀ (listed : Array Bool) (a : Act) (w : World) (val : Nat → Value), (∀ k, k < l.length → Q8 listed k = true) → Cons P l sp e0 L0 (Q8 listed) val l.length →
   Sim n a (EL P l sp e0 L0 (Q8 listed) val l.length).1 → Fr cx w → Sat cx w (EL P l sp e0 L0 (Q8 listed) val l.length).2 → lift n Q .normal a w := by
  intro listed a w val hall hc hs hF hS
  have he : ∀ k, k ≤ l.length → EL P l sp e0 L0 (Q8 listed) val k = EL P l sp e0 L0 full val k := by
   intro k
   induction k with
   | zero => intro _; rfl
   | succ k ih => intro hk; simp only [EL, ih (by omega), hall k (by omega), full]
  have hcf : Cons P l sp e0 L0 full val l.length := fun j hj hf => by
   have := hc j hj (hall j hj)
   rwa [he j (by omega)] at this
  have h0 := sq_at ok h l.length (Nat.le_refl _) val hcf
  rw [List.drop_length, ok.len, List.drop_length, ← ok.len] at h0
  cases h0 with
  | nil hh =>
   rw [← he _ (Nat.le_refl _)] at hh
   exact ⟨_, hs, hh.out w hF hS⟩
 have ready_all : ∀ (listed : Array Bool), listed.size = l.length → Region.ready .any l.toArray listed = [] → ∀ k, k < l.length → Q8 listed k = true := by
  intro listed hsz hr k
  induction k using Nat.strongRecOn with
  | _ k ih =>
   intro hk
   rcases Bool.eq_false_or_eq_true (Q8 listed k) with hh | hh
   ·exact hh
   ·exfalso
    have : k ∈ Region.ready .any l.toArray listed := by
     unfold Region.ready
     rw [List.mem_filter]
     refine ⟨by simpa using hk, ?_⟩
     have hg : listed.getD k true = false := by
      have hh' : listed.getD k false = false := hh
      rw [Array.getD_eq_getD_getElem?, Array.getElem?_eq_getElem (by omega)] at hh' ⊢
      simpa using hh'
     have hok : l.toArray[k]? = some (od l k) := by simp [od, List.getD_eq_getElem?_getD, List.getElem?_eq_getElem hk]
     simp only [hg, Bool.not_false, Bool.true_and, hok, Option.map_some, Option.getD_some]
     rw [Array.all_eq_true_iff_forall_mem]
     intro x hx
     by_cases hb : Region.binds .any x = true
     ·have hlt := ok.back k x hk (by simpa using hx) hb
      have := ih x.on hlt (by omega)
      simp only [hb, Bool.not_true, Bool.false_or]
      exact this
     ·simp only [Bool.not_eq_true] at hb
      simp [hb]
    rw [hr] at this
    cases this
 intro fuel
 induction fuel with
 | zero =>
  intro listed a w val hsz hSc hc hcount hs hF hS
  have hall : ∀ k, k < l.length → Q8 listed k = true := by
   intro k hk
   have h0 : (List.range l.length).filter (fun k => !Q8 listed k) = [] := List.eq_nil_of_length_eq_zero (by omega)
   rw [List.filter_eq_nil_iff] at h0
   simpa using h0 k (by simpa using hk)
  refine ⟨?_, final listed a w val hall hc hs hF hS⟩
  cases hr : Region.ready .any l.toArray listed with
  | nil => rfl
  | cons x xs =>
   exfalso
   obtain ⟨h1, h2, _⟩ := ready_mem (md := .any) (ops := l.toArray) (listed := listed) (k := x) (by rw [hr]; simp)
   have h1' : x < l.length := by simpa using h1
   have := hall x h1'
   unfold Q8 at this
   rw [Array.getD_eq_getD_getElem?, Array.getElem?_eq_getElem (by omega)] at this h2
   simp at this h2
   rw [this] at h2
   cases h2
 | succ fuel ih =>
  intro listed a w val hsz hSc hc hcount hs hF hS
  refine ⟨fun hr => final listed a w val (ready_all listed hsz hr) hc hs hF hS, fun k hk => ?_⟩
  obtain ⟨h1, h2, o, ho, hafter⟩ := ready_mem hk
  have hkl : k < l.length := by simpa using h1
  have hoe : o = od l k := by
   have : l[k]? = some o := by simpa using ho
   simp [od, List.getD_eq_getElem?_getD, this]
  subst hoe
  have hSk : Q8 listed k = false := by
   unfold Q8
   rw [Array.getD_eq_getD_getElem?, Array.getElem?_eq_getElem (by omega)] at h2 ⊢
   simpa using h2
  have hclk : Ji3 l (fun i => Q8 listed i = true) k := fun x hx hb => hafter x hx hb
  obtain ⟨val', hv, hcf⟩ := fill ok h hSc hc k (by omega)
  have h0 := sq_at ok h k (by omega) val' hcf
  rw [drop_od hkl, drop_sd (by have := ok.len; omega)] at h0
  obtain ⟨a1, a2⟩ := agree_all (P := P) (e0 := e0) (L0 := L0) ok (S' := full) (val' := val') hSc (fun _ _ => rfl) (fun i hi => (hv i hi).symm) k hkl hclk
  obtain ⟨b1, b2⟩ := tail_agree (P := P) (e0 := e0) (L0 := L0) (val := val) ok hSc hSk l.length (by omega) (Nat.le_refl _)
  have hsel : ∀ cs b, (od l k).op ≠ .select cs b := (Region.noSelect_spec ok.nosel k _ · · (by simpa using ho))
  have hSn : Q8 (listed.setIfInBounds k true) = Ui (Q8 listed) k := by
   funext i
   unfold Q8 Ui
   simp only [Array.getD_eq_getD_getElem?, Array.getElem?_setIfInBounds]
   by_cases hik : i = k
   ·subst hik; simp [show i < listed.size by omega]
   ·have : ¬ k = i := fun e => hik e.symm
    simp [hik, this]
  have hScn : Sc l (Ui (Q8 listed) k) := by
   intro j hj hSj x hx hb
   by_cases hjk : j = k
   ·subst hjk
    have := hclk x hx hb
    simp only [Ui]
    split
    ·rfl
    ·exact this
   ·have hSj' : Q8 listed j = true := by simpa [Ui, hjk] using hSj
    have := hSc j hj hSj' x hx hb
    simp only [Ui]
    split
    ·rfl
    ·exact this
  have hcnt : ((List.range l.length).filter fun i => !Ui (Q8 listed) k i).length ≤ fuel := by
   have hsub : ((List.range l.length).filter fun i => !Ui (Q8 listed) k i).length < ((List.range l.length).filter fun i => !Q8 listed i).length := by
    have e1 : (List.range l.length).filter (fun i => !Ui (Q8 listed) k i) = ((List.range l.length).filter fun i => !Q8 listed i).filter fun i => decide (i ≠ k) := by
     rw [List.filter_filter]
     apply List.filter_congr
     intro i _
     unfold Ui
     by_cases hik : i = k <;> simp [hik]
    rw [e1]
    refine List.length_filter_lt_length_iff_exists.2 ⟨k, ?_, by simp⟩
    rw [List.mem_filter]
    exact ⟨by simpa using hkl, by simp [hSk]⟩
   omega
  have hwa : X3 l.toArray (od l k) (EL P l sp e0 L0 (Q8 listed) val l.length).1 = X3 l.toArray (od l k) (EL P l sp e0 L0 full val' k).1 := (Jeh b1).trans (Jeh a1)
  have hwk : X3 l.toArray (od l k) (EL P l sp e0 L0 (Q8 listed) val k).1 = X3 l.toArray (od l k) (EL P l sp e0 L0 full val' k).1 := Jeh a1
  have next : ∀ (v : Value) (a' : Act) (w' : World), (if X3 l.toArray (od l k) (EL P l sp e0 L0 full val' k).1 = true then (sd sp k).V P (od l k) (EL P l sp e0 L0 full val' k).1 (look (EL P l sp e0 L0 full val' k).2) v else v = undef) →
    Sim n a' (Jdv (EL P l sp e0 L0 (Q8 listed) val l.length).1 (od l k).dst v) → Fr cx w' →
    Sat cx w' (if X3 l.toArray (od l k) (EL P l sp e0 L0 full val' k).1 = true then Wb (EL P l sp e0 L0 (Q8 listed) val l.length).2 ((sd sp k).T (EL P l sp e0 L0 full val' k).1 (look (EL P l sp e0 L0 full val' k).2) v) else (EL P l sp e0 L0 (Q8 listed) val l.length).2) →
    wpAny P .any l.toArray (lift n Q) fuel (listed.setIfInBounds k true) a' w' := by
   intro v a' w' hvv hs' hF' hS'
   have hstep := EL_step (P := P) (e0 := e0) (L0 := L0) ok hSc hSk v (val := val) l.length (by omega) (Nat.le_refl _)
   have hT : (sd sp k).T (EL P l sp e0 L0 (Q8 listed) val k).1 (look (EL P l sp e0 L0 (Q8 listed) val k).2) v = (sd sp k).T (EL P l sp e0 L0 full val' k).1 (look (EL P l sp e0 L0 full val' k).2) v :=
    T_loc _ (fun t ht => a1 t (ok.rs k t hkl ht)) (fun i hi => a2 i (.inl hi)) v
   refine ih (listed.setIfInBounds k true) a' w' (Je7 val k v) (by simpa using hsz) (by rw [hSn]; exact hScn) ?_ (by rw [hSn]; exact hcnt) ?_ hF' ?_
   ·rw [hSn]
    refine cons_step ok hSc hkl hSk hc ?_
    rw [hwk]
    split
    ·rename_i hw
     rw [if_pos hw] at hvv
     rw [V_locL (L' := (EL P l sp e0 L0 full val' k).2) (sd sp k) hsel (ops := l.toArray) a1 (fun t ht => a1 t (ok.rs k t hkl ht)) (fun i hi => a2 i (.inl hi))]
     exact hvv
    ·rename_i hw
     rw [if_neg hw] at hvv
     exact hvv
   ·rw [hSn, hstep]; exact hs'
   ·rw [hSn, hstep]
    simp only
    rw [hwk, hT]
    exact hS'
  unfold wpOp
  rw [ho]
  simp only
  rw [Jfx hs, hwa]
  cases h0 with
  | pass hw h3 =>
   rw [hw]
   simp only [Bool.false_eq_true, if_false]
   refine next undef _ w (by rw [if_neg (by rw [hw]; simp)]) ?_ hF (by rw [if_neg (by rw [hw]; simp)]; exact hS)
   cases hd : (od l k).dst with
   | none => exact hs
   | some d => exact hs.put (ok.dst k d hkl hd) undef
  | take hw hi hl h3 =>
   rw [hw, if_pos rfl]
   refine .inl ?_
   have hr := hl.out w _ hF hS (by rw [Jg1, Jg1]) (fun i hi => (b2 i hi).trans (a2 i hi))
   have hev : execOp (ev (EL P l sp e0 L0 full val' k).1) (od l k) = execOp (ev (EL P l sp e0 L0 (Q8 listed) val l.length).1) (od l k) :=
    ev_loc hsel (ops := l.toArray) (fun t ht => ((b1 t ht).trans (a1 t ht)).symm)
   unfold RunsTo at hr
   rw [hev] at hr
   unfold Oper.wp
   rw [hs.ev]
   have put : ∀ v : Value, Sim n (a.put (od l k).dst v) (Jdv (EL P l sp e0 L0 (Q8 listed) val l.length).1 (od l k).dst v) := by
    intro v
    cases hd : (od l k).dst with
    | none => exact hs
    | some d => exact hs.put (ok.dst k d hkl hd) v
   have go : ∀ v w', (sd sp k).V P (od l k) (EL P l sp e0 L0 full val' k).1 (look (EL P l sp e0 L0 full val' k).2) v ∧ Fr cx w' ∧ Sat cx w' (Wb (EL P l sp e0 L0 (Q8 listed) val l.length).2 ((sd sp k).T (EL P l sp e0 L0 full val' k).1 (look (EL P l sp e0 L0 full val' k).2) v)) →
     wpAny P .any l.toArray (lift n Q) fuel (listed.setIfInBounds k true) (a.put (od l k).dst v) w' :=
    fun v w' ⟨g1, g2, g3⟩ => next v _ w' (by rw [if_pos hw]; exact g1) (put v) g2 (by rw [if_pos hw]; exact g3)
   generalize (execOp (ev (EL P l sp e0 L0 (Q8 listed) val l.length).1) (od l k)).run P w = r at *
   cases r with
   | halt x w' => exact hr.elim
   | ok nx w' =>
    cases nx with
    | value v => exact go v w' hr
    | skip => exact go undef w' hr
    | enter f args =>
     show Calls P f args w' _
     refine Calls.mono hr ?_
     rintro en w'' ⟨v, rfl, hk'⟩
     exact go v w'' hk'
    | _ => exact hr.elim
theorem EL_none (S : Nat → Bool) (h : ∀ k, S k = false) (val : Nat → Value) : ∀ k, EL P l sp e0 L0 S val k = (e0, L0) := by
 intro k
 induction k with
 | zero => rfl
 | succ k ih => simp only [EL, h k]; exact ih
end sound
def empC : Chunk := ⟨fun S _ => ∀ b, ¬ S b, fun _ _ _ _ h => h⟩
theorem Sat.emp {cx : Cx} {w : World} {L : List Chunk} (h : Sat cx w L) (hF : Fr cx w) : Sat cx w (L ++ [empC]) :=
 h.snoc hF (Grow.refl w) (S := fun _ => False) (fun _ h => h) (fun _ h => h.elim)
theorem Sat.pad {cx : Cx} {w : World} (hF : Fr cx w) : ∀ (k : Nat) {L : List Chunk}, Sat cx w L → Sat cx w (L ++ List.replicate k empC)
 | 0, L, h => by simpa using h
 | k + 1, L, h => by
  have := Sat.pad hF k (h.emp hF)
  rwa [List.append_assoc, List.singleton_append, ← List.replicate_succ] at this
theorem Qv {P : Program} {n : Nat} {cx : Cx} {Q : Jax} {e : Xl} {L : List Chunk} {id : Nat} {l : List Oper} (sp : List Kd) (k : Nat) (hm : P.follows .mixedOrders = true)
  (h : Sq P cx l.toArray (fun e L => At cx (Q .normal) e L) l sp e (L ++ List.replicate k empC)) (hB : checkD n l sp = true) : At cx (WC P n (.region id l.toArray true) Q) e L :=
 ⟨fun w hF hS => ⟨fun a ha => by
  have ok := ok_of hB
  have hno : ∀ i, Q8 (Array.replicate l.toArray.size false) i = false := by
   intro i
   simp only [Q8, Array.getD_eq_getD_getElem?, Array.getElem?_replicate]
   split <;> rfl
  refine wp_region_any hm (any_of ok h l.toArray.size (Array.replicate l.toArray.size false) a _ (fun _ => undef) (by simp) (fun k _ hk => by rw [hno k] at hk; cases hk) (fun j _ hj => by rw [hno j] at hj; cases hj) ?_ ?_ ⟨hF.os, hF.tape, hF.output, hF.size, hF.block⟩ ?_)
  ·exact Nat.le_trans (List.length_filter_le _ _) (by simp)
  ·rw [EL_none _ hno]; exact ha
  ·rw [EL_none _ hno]
   have hg : Grow w { w with drawn := w.drawn + 1 } := ⟨rfl, rfl, rfl, Nat.le_refl _, fun _ _ => rfl⟩
   exact (hS.pad hF k).grow hg⟩⟩
end Go.Vc

namespace Go.Vc
open Go
def Jh1 (v : Value) (cs : List Value) (T : TypeId) : Chunk :=
 match v with
 | .pointer (some a) => Jn a.block cs T
 | .slice (some a) _ _ => Jn a.block cs T
 | _ => empC
def Kd.ns (i : Nat) (cs : List Value) (T m : Nat) : Kd := .g [] [] [i] (fun _ _ v => ∃ b, v = .slice (some ⟨b, 0, none⟩) m m) (fun _ _ v => [Jh1 v cs T])
def Kd.st (a i : Nat) (cs : List Value) (T : TypeId) : Kd := .g [a] [i] [i] (fun _ _ v => v = undef) (fun vs _ _ => [Jh1 (vs.headD undef) cs T])
section rules
variable {P : Program} {n : Nat} {cx : Cx} {Q : Jax} {e : Xl} {L : List Chunk} {ops : Array Oper} {F : Xl → List Chunk → Prop} {rest : List Oper} {ss : List Kd}
theorem Q3 {o : Oper} {s : Kd} {d : Nat} (hw : X3 ops o e = false) (hd : o.dst = some d) (k : Sq P cx ops F rest ss (upd e d undef) L) : Sq P cx ops F (o :: rest) (s :: ss) e L :=
 .pass hw (by rw [hd]; exact k)
theorem Jq {o : Oper} {d : Nat} {v : Value} (hw : X3 ops o e = true) (hd : o.dst = some d) (hr : ∀ w, (execOp (ev e) o).run P w = .ok (.value v) w)
  (k : Sq P cx ops F rest ss (upd e d v) L) : Sq P cx ops F (o :: rest) (.p :: ss) e L := by
 refine .take hw ⟨v, hr⟩ ⟨fun w L' hF hS _ _ => ?_⟩ fun v' hv' => ?_
 ·unfold RunsTo
  rw [hr]
  exact ⟨hr, hF, hS⟩
 ·have h1 := hv' default
  rw [hr] at h1
  have : v = v' := by simpa using h1
  subst this
  rw [hd]
  exact k
theorem d_det {o : Oper} {d : Nat} {v : Value} {rds : List Nat} (hw : X3 ops o e = true) (hd : o.dst = some d)
  (h : ∀ w L', Fr cx w → Sat cx w L' → (∀ i ∈ rds, L'[i]? = L[i]?) → RunsTo P (ev e) o w fun v' w' => v' = v ∧ Grow w w')
  (k : Sq P cx ops F rest ss (upd e d v) L) : Sq P cx ops F (o :: rest) (.d rds v :: ss) e L := by
 refine .take hw ⟨v, rfl⟩ ⟨fun w L' hF hS _ hi => ?_⟩ fun v' hv' => ?_
 ·refine (h w L' hF hS fun i hm => hi i (.inl hm)).mono fun v' w' ⟨h1, h2⟩ => ?_
  exact ⟨h1, hF.grow h2, hS.grow h2⟩
 ·have : v' = v := hv'
  subst this
  rw [hd]
  exact k
variable {d : Nat} {ty : TypeId} {pos : String} {af : Array Edge} {g : Option (Nat × Bool)}
theorem X9 {i : Nat} {T T0 b o : Nat} {A : Operand} {cs : List Value} {v : Value} (hA : ∀ w, (isAgg T).run P w = .ok false w)
  (hw : X3 ops ⟨some d, .load T A, ty, pos, af, g⟩ e = true) (hp : ev e A = .pointer (some ⟨b, o, none⟩)) (hL : L[i]? = some (Jn b cs T0)) (hv : rg cs o = some v)
  (k : Sq P cx ops F rest ss (upd e d v) L) : Sq P cx ops F (⟨some d, .load T A, ty, pos, af, g⟩ :: rest) (.d [i] v :: ss) e L :=
 d_det hw rfl (fun w L' hF hS hi => by
  have hc := Jey (o := o) (Ut hS ((hi i (by simp)).trans hL))
  rw [← rg_eq, hv] at hc
  unfold RunsTo
  have : (execOp (ev e) ⟨some d, .load T A, ty, pos, af, g⟩).run P w = .ok (.value v) w := by
   simp [execOp, Instr.loadAt, Instr.sureAddr, hp, Jdu hA hc]
  rw [this]
  exact ⟨rfl, Grow.refl w⟩) k
theorem Jfs {i : Nat} {T T0 b o sz : Nat} {A : Operand} {cs vs : List Value} (hA : ∀ w, (isAgg T).run P w = .ok true w) (hs : ∀ w, (sizeOf T).run P w = .ok sz w)
  (hw : X3 ops ⟨some d, .load T A, ty, pos, af, g⟩ e = true) (hp : ev e A = .pointer (some ⟨b, o, none⟩)) (hL : L[i]? = some (Jn b cs T0)) (hv : rd cs o sz = some vs)
  (k : Sq P cx ops F rest ss (upd e d (.agg vs.toArray)) L) : Sq P cx ops F (⟨some d, .load T A, ty, pos, af, g⟩ :: rest) (.d [i] (.agg vs.toArray) :: ss) e L :=
 d_det hw rfl (fun w L' hF hS hi => by
  obtain ⟨h1, h2⟩ := Jil hv
  have hr := Ww (P := P) (w := w) (b := b) (o := o) hA hs h1 (fun j v hj => by rw [Jey (Ut hS ((hi i (by simp)).trans hL))]; exact h2 j v hj)
  unfold RunsTo
  have : (execOp (ev e) ⟨some d, .load T A, ty, pos, af, g⟩).run P w = .ok (.value (.agg vs.toArray)) w := by
   simp [execOp, Instr.loadAt, Instr.sureAddr, hp, hr]
  rw [this]
  exact ⟨rfl, Grow.refl w⟩) k
theorem Jb9 {f : FuncId} {A : Array Operand} {tys : Array TypeId} {args : List Value} {v : Value} (h : Ret P f args v) (hc : ∀ args w, (callFunc f args).run P w = .ok (.enter f args) w)
  (hw : X3 ops ⟨some d, .call ⟨.value (.func f), A, tys⟩, ty, pos, af, g⟩ e = true) (ha : A.toList.map (ev e) = args)
  (k : Sq P cx ops F rest ss (upd e d v) L) : Sq P cx ops F (⟨some d, .call ⟨.value (.func f), A, tys⟩, ty, pos, af, g⟩ :: rest) (.d [] v :: ss) e L :=
 d_det hw rfl (fun w L' _ _ _ => by
  unfold RunsTo
  rw [Jfc hc ha]
  exact h w) k
theorem Jhp {o : Oper} {i m : Nat} {T : TypeId} {cs : List Value} (hw : X3 ops o e = true) (hd : o.dst = some d)
  (hr : ∀ w, (execOp (ev e) o).run P w = .ok (.value (.slice (some ⟨w.heap.size, 0, none⟩) m m)) (w.alloc (.cells cs.toArray T))) (hL : L[i]? = some empC)
  (k : ∀ b, Sq P cx ops F rest ss (upd e d (.slice (some ⟨b, 0, none⟩) m m)) (L.set i (Jn b cs T))) : Sq P cx ops F (o :: rest) (.ns i cs T m :: ss) e L := by
 refine .take hw ⟨.slice (some ⟨0, 0, none⟩) m m, 0, rfl⟩ ⟨fun w L' hF hS _ hi => ?_⟩ fun v' hv' => ?_
 ·unfold RunsTo
  rw [hr]
  refine ⟨⟨_, rfl⟩, hF.grow (Ja7 w _), ?_⟩
  refine hS.set hF ((hi i (.inr (by simp [Kd.ns, Kd.wrs]))).trans hL) (by simp) fun S _ hSo => ⟨fun x => x = w.heap.size, ⟨fun _ => Iff.rfl, heap_alloc_new w _⟩, fun b hb => ?_, fun b hb _ => (by first | exact heap_alloc_old w _ b hb | exact heap_alloc_old w _ hb)⟩
  subst hb
  exact ⟨by simp, .inr (Nat.le_refl _)⟩
 ·obtain ⟨b, rfl⟩ : ∃ b, v' = .slice (some ⟨b, 0, none⟩) m m := hv'
  rw [hd]
  exact k b
theorem run_alloc {d : Option Nat} {T : TypeId} {z : Value} {cs : List Value} (hz : ∀ w, (zeroValue T).run P w = .ok z w) (hc : z.cells.toList = cs) (w : World) :
  (execOp (ev e) ⟨d, .alloc T, ty, pos, af, g⟩).run P w = .ok (.value (.pointer (some ⟨w.heap.size, 0, none⟩))) (w.alloc (.cells cs.toArray T)) := by
 subst hc
 simp [execOp, Instr.alloc, hz, Jhe]
theorem run_store {T T0 b o sz : Nat} {A X : Operand} {x : Value} {cs cs' vs : List Value} {w : World} (hs : ∀ w, (sizeOf T).run P w = .ok sz w) (hp : ev e A = .pointer (some ⟨b, o, none⟩)) (hx : ev e X = x) (hc : x.cells.toList = vs) (hsz : vs.length = sz)
  (hpos : Nat.blt 0 sz = true) (hone : vs.all Value.oneCell' = true) (hv : wr cs o vs = some cs') (hb : w.heap[b]? = some (.cells cs.toArray T0 (0, 0))) :
  (execOp (ev e) ⟨none, .store T A X, ty, pos, af, g⟩).run P w = .ok .skip (w.setRow b cs'.toArray) := by
 have hpos' : 0 < vs.length := by rw [hsz]; simpa using hpos
 obtain ⟨h1, h2⟩ := wr_eq hv hpos'
 have hst := run_storeCells_at P b o T0 vs 0 cs.toArray w hb (by simpa using h1) (by simpa using hone)
 have hsz' : x.cells.size = sz := by rw [← hsz, ← hc]; simp
 simp only [Nat.add_zero, List.append_assoc] at hst
 simp only [execOp, Instr.storeAt, Instr.sureAddr, storeVar, hp, hx, Sem.run_bind, Sem.run_pure, Result.andThen_ok, hs, hsz', ne_eq, not_true_eq_false, if_false, hc, hst]
 rw [h2]; simp
theorem Jgz {i : Nat} {a T T0 b o sz : Nat} {X : Operand} {x : Value} {cs cs' vs : List Value} (hs : ∀ w, (sizeOf T).run P w = .ok sz w)
  (hw : X3 ops ⟨none, .store T (.tmp a) X, ty, pos, af, g⟩ e = true) (hp : e a = .pointer (some ⟨b, o, none⟩)) (hx : ev e X = x) (hc : x.cells.toList = vs) (hsz : vs.length = sz) (hpos : Nat.blt 0 sz = true)
  (hone : vs.all Value.oneCell' = true) (hL : L[i]? = some (Jn b cs T0)) (hv : wr cs o vs = some cs')
  (k : Sq P cx ops F rest ss e (L.set i (Jn b cs' T0))) : Sq P cx ops F (⟨none, .store T (.tmp a) X, ty, pos, af, g⟩ :: rest) (.st a i cs' T0 :: ss) e L := by
 have hbox : Jh1 (([a].map e).headD undef) cs' T0 = Jn b cs' T0 := by
  have : ([a].map e).headD undef = e a := rfl
  rw [this, hp]; rfl
 refine .take hw ⟨undef, rfl⟩ ⟨fun w L' hF hS _ hi => ?_⟩ fun v' hv' => ?_
 ·have hL' := (hi i (.inl (by simp [Kd.st, Kd.rds]))).trans hL
  have hb := Ut hS hL'
  unfold RunsTo
  rw [run_store hs (by exact hp) hx hc hsz hpos hone hv hb]
  have hset := setRow_heap w b cs.toArray cs'.toArray T0 (0, 0) hb
  refine ⟨rfl, ⟨hF.os, hF.tape, hF.output, by simpa using hF.size, fun c hcn => ?_⟩, ?_⟩
  ·rw [setRow_other w b c _ (fun e => ?_)]
   ·exact hF.block c hcn
   ·obtain ⟨fp, f1, f2, _⟩ := hS.out
    have := (f2 i b ((f1 i _ hL').1 b |>.2 rfl)).2.2
    subst e
    exact hcn this
  ·show Sat cx _ (L'.set i (Jh1 (([a].map e).headD undef) cs' T0))
   rw [hbox]
   exact hS.set hF hL' (by simp) fun S hSp hSo => ⟨S, ⟨hSp.1, hset⟩, fun c hc => ⟨by simpa using (hSo c hc).1, .inl hc⟩, fun c _ hcS => setRow_other w b c _ (fun e => hcS ((hSp.1 c).2 e))⟩
 ·show Sq P cx ops F rest ss e (L.set i (Jh1 (([a].map e).headD undef) cs' T0))
  rw [hbox]
  exact k
theorem X6 (h : F e L) : Sq P cx ops F [] [] e L := .nil h
theorem Jc5 {os : List Oper} {b : Bool} (ht : b = true → Sq P cx ops F os ss (upd e d (.bool true)) L) (hf : b = false → Sq P cx ops F os ss (upd e d (.bool false)) L) : Sq P cx ops F os ss (upd e d (.bool b)) L := by
 cases b
 ·exact hf rfl
 ·exact ht rfl
end rules
end Go.Vc

namespace Go.Vc
open Go
section rules
variable {P : Program} {n : Nat} {cx : Cx} {Q : Jax} {e : Xl} {L : List Chunk} {ops : Array Oper} {rest : List Oper} {F : Xl → List Chunk → Prop} {ss : List Kd}
variable {ty : TypeId} {pos : String} {af : Array Edge} {g : Option (Nat × Bool)}
theorem r_eqlB {d : Option Nat} {t t' : TypeId} {X Y : Operand} {x y : Bool} (hu : P.underlying t = some .bool) (hx : ev e X = .bool x) (hy : ev e Y = .bool y) (w : World) :
  (execOp (ev e) ⟨d, .binOp .eql t X Y t', ty, pos, af, g⟩).run P w = .ok (.value (.bool (decide (x = y)))) w := by
 have : (Op.equalIn Op.maxDepth t (.bool x) (.bool y)).run P w = .ok (x == y) w := run_equalIn_bool' w _ t x y hu
 simp [execOp, hx, hy, eqGuard, binOp, Op.equal, this]
 rfl
theorem r_neqA {d : Option Nat} {t t' : TypeId} {X Y : Operand} {xs ys : Array Value} {b : Bool} (hg : P.eqGuardType P.depth t = false) (heq : ∀ w, (Op.equalIn Op.maxDepth t (.agg xs) (.agg ys)).run P w = .ok b w)
  (hx : ev e X = .agg xs) (hy : ev e Y = .agg ys) (w : World) :
  (execOp (ev e) ⟨d, .binOp .neq t X Y t', ty, pos, af, g⟩).run P w = .ok (.value (.bool (!b))) w := by
 simp [execOp, hx, hy, eqGuard, binOp, Op.equal, heq, hg]
structure WR (P : Program) (n : Nat) (m : Nat) (c : Code) (Q : Jax) (e : Xl) (w : World) : Prop where
 out : ∀ a, Sim n a e → Code.rounds P c (lift n Q) m a w
def Keeps (M : List Nat) (e e' : Xl) : Prop := ∀ t, (M.any fun x => Nat.beq x t) = false → e' t = e t
theorem Keeps.refl (M : List Nat) (e : Xl) : Keeps M e e := fun _ _ => rfl
structure RoundK {σ : Type} (cx : Cx) (M : List Nat) (e0 : Xl) (st : σ → List (Nat × Value)) (hp : σ → List Chunk) (I : σ → Prop) (m : Nat) (μ : σ → Nat) (e : Xl) (w : World) : Prop where
 out : ∃ s, Jh4 e (st s) ∧ Keeps M e0 e ∧ Fr cx w ∧ Sat cx w (hp s) ∧ I s ∧ μ s < m
def Row (w : World) (a : Option Addr) (sz : Nat) (xs : List (List Value)) : Prop :=
 xs = [] ∨ ∃ b off, a = some ⟨b, off, none⟩ ∧ ∀ (i : Nat) (x : List Value), xs[i]? = some x → x.length = sz ∧ ∀ (j : Nat) (v : Value), x[j]? = some v → w.cell? ⟨b, off + i * sz + j, none⟩ = some v
theorem Row.some {w : World} {a : Option Addr} {sz : Nat} {xs : List (List Value)} (h : Row w a sz xs) {i : Nat} (hi : i < xs.length) : ∃ b off, a = some ⟨b, off, none⟩ := by
 rcases h with h | ⟨b, off, ha, _⟩
 ·subst h; simp at hi
 ·exact ⟨b, off, ha⟩
theorem Jex {sz : Nat} : ∀ (xs : List (List Value)) (i : Nat) (x : List Value), (xs.all fun x => Nat.beq x.length sz) = true → xs[i]? = some x → ∀ (j : Nat) (v : Value), x[j]? = some v → xs.flatten[i * sz + j]? = some v
 | [], i, x, _, hx, _, _, _ => by simp at hx
 | y :: ys, i, x, hl, hx, j, v, hv => by
  simp only [List.all_cons, Bool.and_eq_true] at hl
  have hy : y.length = sz := by simpa using hl.1
  have hj : j < x.length := by
   rcases Nat.lt_or_ge j x.length with h | h
   ·exact h
   ·simp [List.getElem?_eq_none h] at hv
  cases i with
  | zero =>
   simp at hx; subst hx
   simp only [List.flatten_cons, Nat.zero_mul, Nat.zero_add]
   rw [List.getElem?_append_left hj]
   exact hv
  | succ i =>
   simp at hx
   have := Jex ys i x hl.2 hx j v hv
   simp only [List.flatten_cons]
   rw [List.getElem?_append_right (by rw [Nat.succ_mul]; omega)]
   rw [show (i + 1) * sz + j - y.length = i * sz + j from by rw [Nat.succ_mul]; omega]
   exact this
theorem W8 {w : World} {i b : Nat} {cs : List Value} {T : TypeId} {sz : Nat} {xs : List (List Value)} (hS : Sat cx w L) (hL : L[i]? = some (Jn b cs T)) (hcs : xs.flatten = cs) (hlen : (xs.all fun x => Nat.beq x.length sz) = true) : Row w (some ⟨b, 0, none⟩) sz xs := by
 refine .inr ⟨b, 0, rfl, fun i x hx => ⟨?_, fun j v hv => ?_⟩⟩
 ·have := List.all_eq_true.1 hlen x (List.mem_of_getElem? hx)
  simpa using this
 ·rw [Jey (Ut hS hL), ← hcs, Nat.zero_add]
  exact Jex xs i x hlen hx j v hv
theorem Row.at {w : World} {a : Option Addr} {sz : Nat} {α : Type} {f : α → List Value} {xs : List α} (h : Row w a sz (xs.map f)) {k : Nat} (hk : k < xs.length) : ∃ b off, a = Option.some ⟨b, off, none⟩ :=
 h.some (i := k) (by simpa using hk)
def X1 (a : Option Addr) (k : Nat) : Value :=
 match a with
 | some x => .pointer (some ⟨x.block, x.off + k, none⟩)
 | none => undef
theorem Wl {d : Option Nat} {X : Operand} {a : Option Addr} {m c : Nat} {t u : TypeId} (hu : P.underlying t = some (.slice u)) (hx : ev e X = .slice a m c) (w : World) :
  (execOp (ev e) ⟨d, .call ⟨.builtin .len, #[X], #[t]⟩, ty, pos, af, g⟩).run P w = .ok (.value (.int .i64 m)) w := by
 simp [execOp, resolve, invoke, builtin, hx, Builtin.len_, run_underlying hu, goInt]
theorem r_lenS {d : Option Nat} {X : Operand} {s : ByteArray} {t : TypeId} (hu : P.underlying t = some .string) (hx : ev e X = .string s) (w : World) :
  (execOp (ev e) ⟨d, .call ⟨.builtin .len, #[X], #[t]⟩, ty, pos, af, g⟩).run P w = .ok (.value (.int .i64 s.size)) w := by
 simp [execOp, resolve, invoke, builtin, hx, Builtin.len_, run_underlying hu, goInt]
theorem r_index {d : Option Nat} {X I : Operand} {a : Option Addr} {m c : Nat} {t u sz : Nat} {k : IntKind} {i : Int} (hu : P.underlying t = some (.slice u)) (hs : ∀ w, (sizeOf u).run P w = .ok sz w)
  (hx : ev e X = .slice a m c) (hi : ev e I = .int k i) (ha : ∃ b off, a = some ⟨b, off, none⟩) (h0 : 0 ≤ i) (h1 : i < m) (w : World) :
  (execOp (ev e) ⟨d, .indexAddr t X I, ty, pos, af, g⟩).run P w = .ok (.value (X1 a (i.toNat * sz))) w := by
 obtain ⟨b, off, rfl⟩ := ha
 simp [execOp, Instr.indexAt, hx, hi, asIntOf, run_underlying hu, h0, h1, hs, X1, Addr.add_lit]
theorem Jjs {d : Option Nat} {T fld k fo ft fsz bo : Nat} {a : Option Addr} {nm tg pk : String} {em : Bool} {X : Operand} {fs : Array Field} (hu : ∀ w, (underlying T).run P w = .ok (.struct fs) w)
  (hf : fs[fld]? = some ⟨nm, ft, fo, em, tg, pk, bo⟩) (hs : ∀ w, (sizeOf ft).run P w = .ok fsz w) (hsz : Nat.blt 0 fsz = true) (hp : ev e X = X1 a k) (ha : ∃ b off, a = some ⟨b, off, none⟩) (w : World) :
  (execOp (ev e) ⟨d, .fieldAddr T X fld, ty, pos, af, g⟩).run P w = .ok (.value (X1 a (k + fo))) w := by
 obtain ⟨b, off, rfl⟩ := ha
 rw [Jr hu hf hs hsz hp w]
 simp [X1, Nat.add_assoc]
theorem run_loadP1 {T k : Nat} {d : Option Nat} {a : Option Addr} {A : Operand} {sz i j : Nat} {xs : List (List Value)} {x : List Value} {v : Value} {w : World} (hA : ∀ w, (isAgg T).run P w = .ok false w)
  (hp : ev e A = X1 a k) (hk : k = i * sz + j) (hr : Row w a sz xs) (hx : xs[i]? = some x) (hv : rg x j = some v) :
  (execOp (ev e) ⟨d, .load T A, ty, pos, af, g⟩).run P w = .ok (.value v) w := by
 rcases hr with rfl | ⟨b, off, rfl, h⟩
 ·simp at hx
 ·have hc := (h i x hx).2 j v (by rw [← rg_eq]; exact hv)
  subst hk
  have hp' : ev e A = .pointer (some ⟨b, off + i * sz + j, none⟩) := by rw [hp]; simp [X1, Nat.add_assoc]
  simp [execOp, Instr.loadAt, Instr.sureAddr, hp', Jdu hA hc]
theorem run_loadPN {T k m : Nat} {d : Option Nat} {a : Option Addr} {A : Operand} {sz i j : Nat} {xs : List (List Value)} {x vs : List Value} {w : World} (hA : ∀ w, (isAgg T).run P w = .ok true w) (hs : ∀ w, (sizeOf T).run P w = .ok m w)
  (hp : ev e A = X1 a k) (hk : k = i * sz + j) (hr : Row w a sz xs) (hx : xs[i]? = some x) (hv : rd x j m = some vs) :
  (execOp (ev e) ⟨d, .load T A, ty, pos, af, g⟩).run P w = .ok (.value (.agg vs.toArray)) w := by
 rcases hr with rfl | ⟨b, off, rfl, h⟩
 ·simp at hx
 ·obtain ⟨h1, h2⟩ := Jil hv
  subst hk
  have hp' : ev e A = .pointer (some ⟨b, off + i * sz + j, none⟩) := by rw [hp]; simp [X1, Nat.add_assoc]
  have := Ww (P := P) (w := w) (b := b) (o := off + i * sz + j) hA hs h1 (fun q v hq => by
   rw [Nat.add_assoc]; exact (h i x hx).2 (j + q) v (h2 q v hq))
  simp [execOp, Instr.loadAt, Instr.sureAddr, hp', this]
theorem Qf {o : Oper} {d : Nat} {v : Value} (hr : ∀ w, Fr cx w → Sat cx w L → (execOp (ev e) o).run P w = .ok (.value v) w) (hw : X3 ops o e = true) (hd : o.dst = some d) (hn : Nat.blt d n = true)
  (k : At cx (WL P n ops Q rest) (upd e d v) L) : At cx (WL P n ops Q (o :: rest)) e L :=
 Jeo hw hd hn fun w hF hS => ⟨v, w, hr w hF hS, k.out w hF hS⟩
theorem Jit {o : Oper} {d : Nat} {v : Value} (hr : ∀ w, Fr cx w → (execOp (ev e) o).run P w = .ok (.value v) w) (hw : X3 ops o e = true) (hd : o.dst = some d)
  (k : Sq P cx ops F rest ss (upd e d v) L) : Sq P cx ops F (o :: rest) (.d [] v :: ss) e L :=
 d_det hw hd (fun w _ hF _ _ => by unfold RunsTo; rw [hr w hF]; exact ⟨rfl, Grow.refl w⟩) k
theorem Qt {d : Nat} {f : FuncId} {A : Array Operand} {tys : Array TypeId} {args : List Value} {v : Value} (h : ∀ w, Fr cx w → Sat cx w L → Does P f args.toArray w fun v' w' => v' = v ∧ Grow w w') (hc : ∀ args w, (callFunc f args).run P w = .ok (.enter f args) w)
  (hw : X3 ops ⟨some d, .call ⟨.value (.func f), A, tys⟩, ty, pos, af, g⟩ e = true) (hn : Nat.blt d n = true) (ha : A.toList.map (ev e) = args)
  (k : At cx (WL P n ops Q rest) (upd e d v) L) : At cx (WL P n ops Q (⟨some d, .call ⟨.value (.func f), A, tys⟩, ty, pos, af, g⟩ :: rest)) e L :=
 l_calls hw rfl hn (Jfc hc ha) fun w hF hS => (h w hF hS).mono fun v' w' ⟨hv, hg⟩ => by
  subst hv
  exact k.out w' (hF.grow hg) (hS.grow hg)
theorem Je0 {d : Nat} {f : FuncId} {A : Array Operand} {tys : Array TypeId} {args : List Value} {v : Value} {rds : List Nat} (h : ∀ w L', Fr cx w → Sat cx w L' → (∀ i ∈ rds, L'[i]? = L[i]?) → Does P f args.toArray w fun v' w' => v' = v ∧ Grow w w') (hc : ∀ args w, (callFunc f args).run P w = .ok (.enter f args) w)
  (hw : X3 ops ⟨some d, .call ⟨.value (.func f), A, tys⟩, ty, pos, af, g⟩ e = true) (ha : A.toList.map (ev e) = args)
  (k : Sq P cx ops F rest ss (upd e d v) L) : Sq P cx ops F (⟨some d, .call ⟨.value (.func f), A, tys⟩, ty, pos, af, g⟩ :: rest) (.d rds v :: ss) e L :=
 d_det hw rfl (fun w L' hF hS hi => by
  unfold RunsTo
  rw [Jfc hc ha]
  exact h w L' hF hS hi) k
theorem r_ext {d : Option Nat} {f : FuncId} {A : Array Operand} {tys : Array TypeId} {args : List Value} {v : Value} (hc : ∀ w, (callFunc f args.toArray).run P w = .ok (.value v) w) (ha : A.toList.map (ev e) = args) (w : World) :
  (execOp (ev e) ⟨d, .call ⟨.value (.func f), A, tys⟩, ty, pos, af, g⟩).run P w = .ok (.value v) w := by
 subst ha
 have : (A.toList.map (ev e)).toArray = A.map (ev e) := by rw [← Array.toList_map, Array.toArray_toList]
 rw [this] at hc
 simp only [execOp, resolve, ev, Deferred.ofValue, Sem.run_bind, Sem.run_pure, Result.andThen_ok, invoke, hc, Array.append_empty, Array.empty_append]
theorem fold_set (off : Nat) : ∀ (vs : List Value) (j : Nat) (cs : Array Value), off + j + vs.length ≤ cs.size →
  ((vs.zipIdx j).foldl (fun cs (p : Value × Nat) => cs.setIfInBounds (off + p.2) p.1) cs).toList = cs.toList.take (off + j) ++ vs ++ cs.toList.drop (off + j + vs.length)
 | [], j, cs, _ => by simp
 | v :: vs, j, cs, h => by
  simp only [List.zipIdx_cons, List.foldl_cons]
  rw [fold_set off vs (j + 1) _ (by simp at h ⊢; omega)]
  have hlt : off + j < cs.size := by simp at h; omega
  simp only [Array.toList_setIfInBounds, List.length_cons]
  have e1 : (cs.toList.set (off + j) v).take (off + (j + 1)) = cs.toList.take (off + j) ++ [v] := by
   rw [show off + (j + 1) = (off + j) + 1 from by omega, List.take_add_one]
   rw [List.take_set_of_le (Nat.le_refl _)]
   simp [hlt]
  have e2 : (cs.toList.set (off + j) v).drop (off + (j + 1) + vs.length) = cs.toList.drop (off + j + (vs.length + 1)) := by
   rw [List.drop_set_of_lt (by omega)]
   congr 1; omega
  rw [e1, e2]
  simp
theorem fill_all (sz : Nat) : ∀ (vs : List Value) (i : Nat) (cs : Array Value), (∀ v ∈ vs, v.cells.size = sz) → cs.size = (i + vs.length) * sz →
  ∃ out : Array Value, Instr.fill (fun i => some (i * sz, sz)) cs ((vs.zipIdx i).map fun p => (p.2, p.1)) = some out ∧ out.toList = cs.toList.take (i * sz) ++ vs.flatMap fun v => v.cells.toList
 | [], i, cs, _, hsz => ⟨cs, rfl, by simp at hsz; simp [← hsz, List.take_of_length_le]⟩
 | v :: vs, i, cs, hv, hsz => by
  have h1 : v.cells.size = sz := hv v (by simp)
  have hle : i * sz + v.cells.size ≤ cs.size := by
   rw [h1, hsz, ← Nat.succ_mul]; exact Nat.mul_le_mul_right _ (by simp)
  have hf := fold_set (i * sz) v.cells.toList 0 cs (by simpa using hle)
  obtain ⟨out, ho1, ho2⟩ := fill_all sz vs (i + 1) (v.cells.zipIdx.foldl (fun cs (p : Value × Nat) => cs.setIfInBounds (i * sz + p.2) p.1) cs) (fun u hu => hv u (by simp [hu])) (by
   have : (v.cells.zipIdx.foldl (fun cs (p : Value × Nat) => cs.setIfInBounds (i * sz + p.2) p.1) cs).size = cs.size := by
    rw [← Array.foldl_toList, ← Array.length_toList, Array.toList_zipIdx, hf]
    simp
    omega
   rw [this, hsz]; simp; congr 1; omega)
  refine ⟨out, ?_, ?_⟩
  ·simp only [List.zipIdx_cons, List.map_cons, Instr.fill]
   rw [if_neg (by simp [h1]; omega)]
   exact ho1
  ·rw [ho2, ← Array.foldl_toList, Array.toList_zipIdx, hf]
   simp only [List.flatMap_cons]
   rw [show (i + 1) * sz = i * sz + v.cells.toList.length from by rw [Nat.succ_mul]; simp [h1]]
   simp only [Nat.add_zero]
   have hl : (cs.toList.take (i * sz) ++ v.cells.toList).length = i * sz + v.cells.toList.length := by simp; omega
   rw [List.take_left' hl, List.append_assoc]
theorem Ve {d : Option Nat} {t u sz m : Nat} {parts : Array (Nat × Operand)} {z : Value} {vs : List Value} {cs : List Value} (hu : P.underlying t = some (.slice u)) (hs : ∀ w, (sizeOf u).run P w = .ok sz w) (hz : ∀ w, (zeroValue u).run P w = .ok z w)
  (hps : parts.toList.map (fun (i, x) => (i, ev e x)) = (vs.zipIdx 0).map fun p => (p.2, p.1)) (hm : vs.length = m) (hall : (vs.all fun v => Nat.beq v.cells.size sz) = true) (hb : Nat.ble (m * sz) 16777216 = true) (hcs : (vs.flatMap fun v => v.cells.toList) = cs) (w : World) :
  (execOp (ev e) ⟨d, .buildSlice t m parts, ty, pos, af, g⟩).run P w = .ok (.value (.slice (some ⟨w.heap.size, 0, none⟩) m m)) (w.alloc (.cells cs.toArray u)) := by
 have hps' : (parts.map fun (i, x) => (i, ev e x)).toList = (vs.zipIdx 0).map fun p => (p.2, p.1) := by rw [← hps, Array.toList_map]
 have hb' : m * sz ≤ 16777216 := by simpa using hb
 have hall' : ∀ v ∈ vs, v.cells.size = sz := fun v hv => by simpa using List.all_eq_true.1 hall v hv
 have key : ∀ cs0 : Array Value, cs0.size = m * sz → Instr.fill (fun i => some (i * sz, sz)) cs0 ((vs.zipIdx 0).map fun p => (p.2, p.1)) = some cs.toArray := by
  intro cs0 h0
  obtain ⟨out, h1, h2⟩ := fill_all sz vs 0 cs0 hall' (by rw [h0, Nat.zero_add, hm])
  rw [h1]
  congr 1
  apply Array.ext'
  rw [h2, ← hcs]; simp
 have h24 : ¬ m * sz > 2 ^ 24 := by omega
 by_cases h0 : m * sz = 0
 ·simp only [execOp, Instr.buildSlice, Sem.run_bind, run_underlying hu, Result.andThen_ok, hs, hps', h24, if_false]
  simp only [h0, if_true, Sem.run_pure, pure_bind]
  rw [key _ (by simp [h0])]
  simp [newRow, newObj, Sem.run]
 ·have hk := key ((Array.range (m * sz)).map (z.cells[· % z.cells.size]!)) (by simp)
  simp only [execOp, Instr.buildSlice, Sem.run_bind, run_underlying hu, Result.andThen_ok, hs, hps', h24, h0, if_false, hz, Sem.run_pure, hk]
  simp [newRow, newObj, Sem.run]
theorem Q9 {d : Nat} {t u sz m : Nat} {parts : Array (Nat × Operand)} {z : Value} {vs cs : List Value} (hu : P.underlying t = some (.slice u)) (hs : ∀ w, (sizeOf u).run P w = .ok sz w) (hz : ∀ w, (zeroValue u).run P w = .ok z w)
  (hw : X3 ops ⟨some d, .buildSlice t m parts, ty, pos, af, g⟩ e = true) (hn : Nat.blt d n = true)
  (hps : parts.toList.map (fun (i, x) => (i, ev e x)) = (vs.zipIdx 0).map fun p => (p.2, p.1)) (hm : vs.length = m) (hall : (vs.all fun v => Nat.beq v.cells.size sz) = true) (hb : Nat.ble (m * sz) 16777216 = true) (hcs : (vs.flatMap fun v => v.cells.toList) = cs)
  (k : ∀ b, At cx (WL P n ops Q rest) (upd e d (.slice (some ⟨b, 0, none⟩) m m)) (L ++ [Jn b cs u])) : At cx (WL P n ops Q (⟨some d, .buildSlice t m parts, ty, pos, af, g⟩ :: rest)) e L :=
 Jeo hw rfl hn fun w hF hS => ⟨.slice (some ⟨w.heap.size, 0, none⟩) m m, w.alloc (.cells cs.toArray u), Ve hu hs hz hps hm hall hb hcs w, (k w.heap.size).out _ (hF.grow (Ja7 w _)) (sat_new hF hS cs u)⟩
end rules
end Go.Vc

namespace Go.Vc
open Go
structure Turn (w w' : World) (S : Nat → Prop) (C : Chunk) : Prop where
 os : w'.os = w.os
 tape : w'.tape = w.tape
 output : w'.output = w.output
 size : w.heap.size ≤ w'.heap.size
 block : ∀ b, b < w.heap.size → ¬ S b → w'.heap[b]? = w.heap[b]?
 out : ∃ S' : Nat → Prop, C.P S' w' ∧ ∀ b, S' b → b < w'.heap.size ∧ (S b ∨ w.heap.size ≤ b)
abbrev Ys : Nat → Prop := fun _ => False
structure Imp (C D : Chunk) : Prop where
 out : ∀ S w, C.P S w → D.P S w
theorem Imp.refl (C : Chunk) : Imp C C := ⟨fun _ _ h => h⟩
theorem Imp.of {C D : Chunk} (h : C = D) : Imp C D := h ▸ Imp.refl C
theorem Turn.grow {w w' : World} {C : Chunk} (h : Turn w w' Ys C) : Grow w w' := ⟨h.os, h.tape, h.output, h.size, fun k hk => h.block k hk (fun x => x)⟩
theorem Yg {σ : Type} {w0 : World} {S : Nat → Prop} {L : List Chunk} {v : Value} {G : σ → Value} {C : σ → Chunk} {i : Nat} {C0 : Chunk} (x : σ) (hL : L[i]? = some C0) (hv : v = G x) (hc : Imp C0 (C x)) :
  ∀ w, Fr ⟨w0, S⟩ w → Sat ⟨w0, S⟩ w L → ∃ x, v = G x ∧ Turn w0 w S (C x) := fun w hF hS => by
 refine ⟨x, hv, hF.os, hF.tape, hF.output, hF.size, fun b hb hn => hF.block b ?_, ?_⟩
 ·rintro (h | h)
  ·exact absurd h (by show ¬ w0.heap.size ≤ b; omega)
  ·exact hn h
 ·obtain ⟨fp, h1, h2, _⟩ := hS.out
  refine ⟨fp i, hc.out _ _ (h1 i C0 hL), fun b hb => ?_⟩
  obtain ⟨_, a2, a3⟩ := h2 i b hb
  exact ⟨a2, a3.symm⟩
theorem Sat.one {w : World} {S : Nat → Prop} {C : Chunk} (h : C.P S w) (hb : ∀ b, S b → b < w.heap.size) : Sat ⟨w, S⟩ w [C] :=
 ⟨fun i b => i = 0 ∧ S b, fun i c hc => by
  cases i with
  | zero => simp at hc; subst hc; simpa using h
  | succ i => simp at hc, fun i b ⟨hi, hs⟩ => ⟨by simp [hi], hb b hs, .inr hs⟩, fun i j b ⟨hi, _⟩ ⟨hj, _⟩ => by omega⟩
section rules
variable {P : Program} {n : Nat} {cx : Cx} {Q : Jax} {e : Xl} {L : List Chunk} {ops : Array Oper} {F : Xl → List Chunk → Prop} {rest : List Oper} {ss : List Kd}
variable {d : Nat} {ty : TypeId} {pos : String} {af : Array Edge} {g : Option (Nat × Bool)}
theorem Fr.turn {w w' : World} {S : Nat → Prop} {C : Chunk} (hF : Fr cx w) (h : Turn w w' S C) (hS : ∀ b, S b → cx.own b) : Fr cx w' :=
 ⟨h.os.trans hF.os, h.tape.trans hF.tape, h.output.trans hF.output, Nat.le_trans hF.size h.size, fun b hb => by
  have hlt : b < w.heap.size := by
   have : ¬ cx.w0.heap.size ≤ b := fun hh => hb (.inl hh)
   have := hF.size
   omega
  rw [h.block b hlt (fun hs => hb (hS b hs)), hF.block b hb]⟩
theorem Sat.turnNew {w w' : World} {C : Chunk} (hS : Sat cx w L) (hF : Fr cx w) (h : Turn w w' Ys C) : Sat cx w' (L ++ [C]) := by
 obtain ⟨S', h1, h2⟩ := h.out
 exact hS.snoc hF h.grow h1 fun b hb => ⟨((h2 b hb).2.resolve_left (fun x => x)), (h2 b hb).1⟩
theorem Sat.turnAt {w w' : World} {i : Nat} {C0 C : Chunk} (hS : Sat cx w L) (hF : Fr cx w) (hL : L[i]? = some C0)
  (h : ∀ S : Nat → Prop, C0.P S w → (∀ b, S b → b < w.heap.size ∧ cx.own b) → Turn w w' S C) (hs : w.heap.size ≤ w'.heap.size) : Sat cx w' (L.set i C) :=
 hS.set hF hL hs fun S hp hb => by
  have t := h S hp hb
  obtain ⟨S', k1, k2⟩ := t.out
  exact ⟨S', k1, k2, fun b hlt hn => t.block b hlt hn⟩
theorem Sat.at {w : World} {i : Nat} {C : Chunk} (hS : Sat cx w L) (hL : L[i]? = some C) : ∃ S : Nat → Prop, C.P S w ∧ ∀ b, S b → b < w.heap.size ∧ cx.own b := by
 obtain ⟨fp, h1, h2, _⟩ := hS.out
 exact ⟨fp i, h1 i C hL, fun b hb => (h2 i b hb).2⟩
theorem l_runs {o : Oper} {d : Nat} (hw : X3 ops o e = true) (hd : o.dst = some d) (hn : Nat.blt d n = true)
  (h : ∀ w, Fr cx w → Sat cx w L → RunsTo P (ev e) o w fun v w' => WL P n ops Q rest (upd e d v) w') : At cx (WL P n ops Q (o :: rest)) e L :=
 ⟨fun w hF hS => ⟨fun a ha => by
  have hr := h w hF hS
  unfold RunsTo at hr
  unfold wpList
  rw [Jfx ha, hw, if_pos rfl]
  refine .inl ?_
  unfold Oper.wp
  rw [ha.ev]
  generalize (execOp (ev e) o).run P w = r at hr
  cases r with
  | halt x w' => exact hr.elim
  | ok nx w' =>
   cases nx with
   | value v =>
    show wpList P ops (lift n Q) rest (a.put o.dst v) w'
    rw [hd]
    exact hr.out _ (ha.put hn v)
   | skip =>
    show wpList P ops (lift n Q) rest (a.put o.dst undef) w'
    rw [hd]
    exact hr.out _ (ha.put hn undef)
   | enter f args =>
    refine Calls.mono hr ?_
    rintro en w'' ⟨v, rfl, hk⟩
    show wpList P ops (lift n Q) rest (a.put o.dst v) w''
    rw [hd]
    exact hk.out _ (ha.put hn v)
   | _ => exact hr.elim⟩⟩
def Turns (P : Program) (cx : Cx) (e : Xl) (o : Oper) (L : List Chunk) (i : Nat) (rds : List Nat) {σ : Type} (G : σ → Value) (C : σ → Chunk) : Prop :=
 ∀ w L', Fr cx w → Sat cx w L' → L'.length = L.length → (∀ j, j ∈ rds ∨ j = i → L'[j]? = L[j]?) → RunsTo P (ev e) o w fun v w' => ∃ x, v = G x ∧ Fr cx w' ∧ Sat cx w' (L'.set i (C x))
def Makes (P : Program) (cx : Cx) (e : Xl) (o : Oper) (L : List Chunk) (rds : List Nat) {σ : Type} (G : σ → Value) (C : σ → Chunk) : Prop :=
 ∀ w L', Fr cx w → Sat cx w L' → (∀ j, j ∈ rds → L'[j]? = L[j]?) → RunsTo P (ev e) o w fun v w' => ∃ x, v = G x ∧ Turn w w' Ys (C x)
theorem Q1 {σ : Type} {o : Oper} {d i : Nat} {rds : List Nat} {G : σ → Value} {C : σ → Chunk} (h : Turns P cx e o L i rds G C) (hw : X3 ops o e = true) (hd : o.dst = some d) (hn : Nat.blt d n = true)
  (k : ∀ x, At cx (WL P n ops Q rest) (upd e d (G x)) (L.set i (C x))) : At cx (WL P n ops Q (o :: rest)) e L :=
 l_runs hw hd hn fun w hF hS => (h w L hF hS rfl (fun _ _ => rfl)).mono fun v w' ⟨x, hv, hF', hS'⟩ => by
  subst hv
  exact (k x).out w' hF' hS'
theorem Zy {σ : Type} {o : Oper} {d : Nat} {rds : List Nat} {G : σ → Value} {C : σ → Chunk} (h : Makes P cx e o L rds G C) (hw : X3 ops o e = true) (hd : o.dst = some d) (hn : Nat.blt d n = true)
  (k : ∀ x, At cx (WL P n ops Q rest) (upd e d (G x)) (L ++ [C x])) : At cx (WL P n ops Q (o :: rest)) e L :=
 l_runs hw hd hn fun w hF hS => (h w L hF hS (fun _ _ => rfl)).mono fun v w' ⟨x, hv, ht⟩ => by
  subst hv
  exact (k x).out w' (hF.grow ht.grow) (hS.turnNew hF ht)
def Kd.t (i : Nat) (rds : List Nat) {σ : Type} (G : σ → Value) (Cv : Value → Chunk) : Kd := .g [] rds [i] (fun _ _ v => ∃ x, v = G x) (fun _ _ v => [Cv v])
theorem Jgf {σ : Type} {o : Oper} {d i : Nat} {rds : List Nat} {G : σ → Value} {C : σ → Chunk} {Cv : Value → Chunk} (x0 : σ) (h : Turns P cx e o L i rds G C) (hC : ∀ x, Cv (G x) = C x) (hw : X3 ops o e = true) (hd : o.dst = some d)
  (k : ∀ x, Sq P cx ops F rest ss (upd e d (G x)) (L.set i (C x))) : Sq P cx ops F (o :: rest) (.t i rds G Cv :: ss) e L := by
 refine .take hw ⟨G x0, x0, rfl⟩ ⟨fun w L' hF hS hl hi => ?_⟩ fun v' hv' => ?_
 ·refine (h w L' hF hS hl fun j hj => hi j (by simpa [Kd.t, Kd.rds, Kd.wrs] using hj)).mono fun v w' ⟨x, hv, hF', hS'⟩ => ?_
  subst hv
  refine ⟨⟨x, rfl⟩, hF', ?_⟩
  show Sat cx w' (L'.set i (Cv (G x)))
  rw [hC]; exact hS'
 ·obtain ⟨x, rfl⟩ : ∃ x, v' = G x := hv'
  show Sq P cx ops F rest ss (Jdv e o.dst (G x)) (L.set i (Cv (G x)))
  rw [hC, hd]
  exact k x
theorem d_make {σ : Type} {o : Oper} {d i : Nat} {rds : List Nat} {G : σ → Value} {C : σ → Chunk} {Cv : Value → Chunk} (x0 : σ) (h : Makes P cx e o L rds G C) (hC : ∀ x, Cv (G x) = C x) (hL : L[i]? = some empC) (hw : X3 ops o e = true) (hd : o.dst = some d)
  (k : ∀ x, Sq P cx ops F rest ss (upd e d (G x)) (L.set i (C x))) : Sq P cx ops F (o :: rest) (.t i rds G Cv :: ss) e L := by
 refine Jgf x0 (fun w L' hF hS hl hi => ?_) hC hw hd k
 refine (h w L' hF hS fun j hj => hi j (.inl hj)).mono fun v w' ⟨x, hv, ht⟩ => ⟨x, hv, hF.grow ht.grow, ?_⟩
 exact hS.turnAt hF ((hi i (.inr rfl)).trans hL) (fun S hp _ => by
  obtain ⟨S', k1, k2⟩ := ht.out
  exact ⟨ht.os, ht.tape, ht.output, ht.size, fun b hb _ => ht.block b hb (fun x => x), S', k1, fun b hb => ⟨(k2 b hb).1, .inr ((k2 b hb).2.resolve_left (fun x => x))⟩⟩) ht.size
theorem Xr {σ : Type} {d : Nat} {f : FuncId} {A : Array Operand} {tys : Array TypeId} {args : List Value} {rds : List Nat} {G : σ → Value} {C : σ → Chunk}
  (h : ∀ w L', Fr cx w → Sat cx w L' → (∀ j ∈ rds, L'[j]? = L[j]?) → Does P f args.toArray w fun v w' => ∃ x, v = G x ∧ Turn w w' Ys (C x)) (hc : ∀ args w, (callFunc f args).run P w = .ok (.enter f args) w)
  (ha : A.toList.map (ev e) = args) : Makes P cx e ⟨some d, .call ⟨.value (.func f), A, tys⟩, ty, pos, af, g⟩ L rds G C := fun w L' hF hS hi => by
 unfold RunsTo
 rw [Jfc hc ha]
 exact h w L' hF hS hi
def J3 (E : TypeId) (sz : Nat) (v : Value) (n : Nat) (xs : List (List Value)) : Chunk where
 P S w := (w.ownsRow 0 E sz v n xs.flatten ∧ xs.length = n ∧ ∀ x ∈ xs, x.length = sz) ∧ ∀ b, v.ownBlock = some b → S b
 loc S w w' h := by
  rintro ⟨⟨⟨h1, h2⟩, h3⟩, h4⟩
  refine ⟨⟨⟨h1, ?_⟩, h3⟩, h4⟩
  rcases h2 with h2 | ⟨g, cap, cur, rfl, hb, hh, hr⟩
  ·exact .inl h2
  ·exact .inr ⟨g, cap, cur, rfl, hb, (h g (h4 g rfl)).trans hh, hr⟩
theorem Jgl {w : World} {E sz n c : Nat} {a : Option Addr} {xs : List (List Value)} (h : w.ownsRow 0 E sz (.slice a n c) n xs.flatten) (hn : xs.length = n) (hl : ∀ x ∈ xs, x.length = sz) : Row w a sz xs := by
 rcases h.2 with ⟨hv, h0⟩ | ⟨g, cap, cur, hv, _, hh, hnc, _, hcs, ht⟩
 ·exact .inl (List.eq_nil_of_length_eq_zero (hn.trans h0))
 ·simp only [Value.slice.injEq] at hv
  obtain ⟨rfl, _, rfl⟩ := hv
  refine .inr ⟨g, 0, rfl, fun i x hx => ⟨hl x (List.mem_of_getElem? hx), fun j v hj => ?_⟩⟩
  have hg := Jex xs i x (List.all_eq_true.2 fun y hy => by simpa using hl y hy) hx j v hj
  rw [← ht, List.getElem?_take] at hg
  split at hg
  ·rw [World.cell?, hh]
   simpa using hg
  ·cases hg
theorem Xd {w : World} {i E sz n c : Nat} {a : Option Addr} {xs : List (List Value)} (hS : Sat cx w L) (hL : L[i]? = some (J3 E sz (.slice a n c) n xs)) : Row w a sz xs := by
 obtain ⟨S, ⟨⟨h1, h2, h3⟩, _⟩, _⟩ := hS.at hL
 exact Jgl h1 h2 h3
theorem J9 {K : Xl → World → Prop} (E sz : Nat) (k : At cx K e (L ++ [J3 E sz (.slice none 0 0) 0 []])) : At cx K e L :=
 ⟨fun w hF hS => k.out w hF (hS.snoc hF (Grow.refl w) (S := Ys) ⟨⟨World.ownsRow_nil _ _ _ _, rfl, by simp⟩, by simp [Value.ownBlock]⟩ (fun _ h => h.elim))⟩
theorem J1 {K : Xl → World → Prop} (i : Nat) {C C' : Chunk} (hL : L[i]? = some C) (h : Imp C C') (k : At cx K e (L.set i C')) : At cx K e L :=
 ⟨fun w hF hS => k.out w hF (hS.set hF hL (Nat.le_refl _) fun S hp hb => ⟨S, h.out S w hp, fun b hs => ⟨(hb b hs).1, .inl hs⟩, fun _ _ _ => rfl⟩)⟩
theorem Ya {o : Oper} {d : Nat} {v : Value} {rds : List Nat} (hr : ∀ w L', Fr cx w → Sat cx w L' → (∀ i ∈ rds, L'[i]? = L[i]?) → (execOp (ev e) o).run P w = .ok (.value v) w) (hw : X3 ops o e = true) (hd : o.dst = some d)
  (k : Sq P cx ops F rest ss (upd e d v) L) : Sq P cx ops F (o :: rest) (.d rds v :: ss) e L :=
 d_det hw hd (fun w L' hF hS hi => by unfold RunsTo; rw [hr w L' hF hS hi]; exact ⟨rfl, Grow.refl w⟩) k
theorem Jkw {d : Option Nat} {S X : Operand} {t E : TypeId} {I : TypeInfo} {z : Value} {sz by_ : Nat} {w : World} {v : Value} {m : Nat} {xs : List Value} {ad : Addr} {q c : Nat} {news : List Value}
  (ht : P.underlying t = some (.slice E)) (hi : P.info? E = some I) (hz : I.zero = some z) (hsize : I.size = sz) (hby : I.bytes = by_) (hzs : z.cells.size = sz) (hsz : 0 < sz)
  (hs : ev e S = v) (hown : w.ownsRow 0 E sz v m xs) (hx : ev e X = .slice (some ad) q c) (hl : news.length = q * sz) (hnews : ∀ j u, news[j]? = some u → w.cell? (ad.add j) = some u) (h1 : ∀ u ∈ news, u.oneCell' = true)
  (h63 : m + q ≤ maxLen) (hbytes : (m + q) * by_ ≤ 140737488355328) :
  ∃ v' w', (execOp (ev e) ⟨d, .call ⟨.builtin .append, #[S, X], #[t, t]⟩, ty, pos, af, g⟩).run P w = .ok (.value v') w' ∧ w'.ownsRow 0 E sz v' (m + q) (xs ++ news) ∧ w.grownBy w' v.ownBlock ∧ (v'.ownBlock = v.ownBlock ∨ v'.ownBlock = some w.heap.size) := by
 obtain ⟨v', w', hr, h2, h3, h4, h5⟩ := run_append_own_at (P := P) w 0 t ty E I z sz by_ ht hi hz hsize hby hzs hsz v m xs hown ad q c news hl hnews h1 h63 hbytes (Nat.zero_le _)
 refine ⟨v', w', ?_, h2, h3, h5⟩
 simp only [execOp, resolve, invoke, builtin, Sem.run_bind, Sem.run_pure, Result.andThen_ok, List.map_toArray, List.map_cons, List.map_nil, hs, hx, hr]
theorem Jfv {w : World} {E sz n : Nat} {v : Value} {xs : List Value} (h : w.ownsRow 0 E sz v n xs) : ∃ p : Option Addr × Nat, v = .slice p.1 n p.2 := by
 rcases h.2 with ⟨rfl, h0⟩ | ⟨g, cap, cur, rfl, _⟩
 ·subst h0; exact ⟨(none, 0), rfl⟩
 ·exact ⟨(some ⟨g, 0, none⟩, cap), rfl⟩
theorem Jdi {w w' : World} {E sz m' : Nat} {v v' : Value} {xs' : List (List Value)} {S : Nat → Prop} (hS : ∀ b, v.ownBlock = some b → S b) (ho : w'.ownsRow 0 E sz v' m' xs'.flatten) (hg : w.grownBy w' v.ownBlock)
  (h5 : v'.ownBlock = v.ownBlock ∨ v'.ownBlock = some w.heap.size) (hn : xs'.length = m') (hl : ∀ x ∈ xs', x.length = sz) : Turn w w' S (J3 E sz v' m' xs') := by
 refine ⟨hg.os, hg.tape, hg.output, hg.size, fun b hb hn => hg.block b hb (fun h => hn (hS b h.symm)), fun b => v'.ownBlock = some b, ⟨⟨ho, hn, hl⟩, fun b h => h⟩, fun b hb => ⟨(ho.lt b hb).2, ?_⟩⟩
 rcases h5 with h | h
 ·exact .inl (hS b (h ▸ hb))
 ·rw [h] at hb; cases hb; exact .inr (Nat.le_refl _)
theorem Sat.turnOf {w w' : World} {i : Nat} {C0 C : Chunk} (hS : Sat cx w L) (hF : Fr cx w) (hL : L[i]? = some C0)
  (h : ∀ S : Nat → Prop, C0.P S w → Turn w w' S C) : Fr cx w' ∧ Sat cx w' (L.set i C) := by
 obtain ⟨S, hp, hb⟩ := hS.at hL
 have t := h S hp
 exact ⟨hF.turn t fun b hs => (hb b hs).2, hS.turnAt hF hL (fun S hp _ => h S hp) t.size⟩
theorem Jif {sz : Nat} : ∀ (xs : List (List Value)), (∀ x ∈ xs, x.length = sz) → ∀ (j : Nat) (u : Value), xs.flatten[j]? = some u → ∃ i k x, xs[i]? = some x ∧ x[k]? = some u ∧ j = i * sz + k
 | [], _, j, u, h => by simp at h
 | x :: r, hl, j, u, h => by
  have hx := hl x (by simp)
  rw [List.flatten_cons] at h
  rcases Nat.lt_or_ge j x.length with hj | hj
  ·rw [List.getElem?_append_left hj] at h
   exact ⟨0, j, x, by simp, h, by simp⟩
  ·rw [List.getElem?_append_right hj] at h
   obtain ⟨i, k, y, h1, h2, h3⟩ := Jif r (fun y hy => hl y (by simp [hy])) _ u h
   exact ⟨i + 1, k, y, by simpa using h1, h2, by rw [Nat.succ_mul]; omega⟩
theorem Jag {sz : Nat} : ∀ (xs : List (List Value)), (∀ x ∈ xs, x.length = sz) → xs.flatten.length = xs.length * sz
 | [], _ => by simp
 | x :: r, hl => by
  rw [List.flatten_cons, List.length_append, Jag r (fun y hy => hl y (by simp [hy])), hl x (by simp), List.length_cons, Nat.succ_mul]
  omega
theorem Jie {i : Nat} {S X : Operand} {t E : TypeId} {I : TypeInfo} {z : Value} {sz by_ : Nat} {p : Option Addr × Nat} {m m' : Nat} {xs xs' : List (List Value)} {ad : Addr} {q c : Nat} {news : List (List Value)} {rds : List Nat}
  (ht : P.underlying t = some (.slice E)) (hi : P.info? E = some I) (hz : I.zero = some z) (hsize : I.size = sz) (hby : I.bytes = by_) (hzs : z.cells.size = sz) (hsz : Nat.blt 0 sz = true)
  (hL : L[i]? = some (J3 E sz (.slice p.1 m p.2) m xs)) (hs : ev e S = .slice p.1 m p.2) (hx : ev e X = .slice (some ad) q c) (hq : news.length = q) (hnl : ∀ x ∈ news, x.length = sz)
  (hnews : ∀ w L', Fr cx w → Sat cx w L' → (∀ j, j ∈ rds → L'[j]? = L[j]?) → Row w (some ad) sz news) (h1 : ∀ x ∈ news, ∀ u ∈ x, u.oneCell' = true)
  (hxs : xs ++ news = xs') (hm : m + q = m') (h63 : m' ≤ 9223372036854775807) (hbytes : m' * by_ ≤ 140737488355328) :
  Turns P cx e ⟨some d, .call ⟨.builtin .append, #[S, X], #[t, t]⟩, ty, pos, af, g⟩ L i rds (fun p' : Option Addr × Nat => .slice p'.1 m' p'.2) (fun p' => J3 E sz (.slice p'.1 m' p'.2) m' xs') := fun w L' hF hS hl hi' => by
  subst hxs hm
  have hL' := (hi' i (.inr rfl)).trans hL
  obtain ⟨S0, ⟨⟨ho, hlen, hlx⟩, hob⟩, _⟩ := hS.at hL'
  have hsz' : 0 < sz := by simpa using hsz
  have hfl : news.flatten.length = q * sz := by rw [Jag news hnl, hq]
  have hcell : ∀ j u, news.flatten[j]? = some u → w.cell? (ad.add j) = some u := by
   intro j u hj
   obtain ⟨i', k', x, g1, g2, g3⟩ := Jif news hnl j u hj
   rcases hnews w L' hF hS (fun j hj => hi' j (.inl hj)) with h | ⟨b, off, ha, h⟩
   ·subst h; simp at g1
   ·cases ha
    have := (h i' x g1).2 k' u g2
    rw [Addr.add_lit, g3, ← Nat.add_assoc]
    exact this
  obtain ⟨v', w', hr, h2, h3, h5⟩ := Jkw (P := P) (ty := ty) (pos := pos) (af := af) (g := g) (d := some d) ht hi hz hsize hby hzs hsz' hs ho hx hfl hcell (by
   intro u hu
   obtain ⟨x, hx, hux⟩ := List.mem_flatten.1 hu
   exact h1 x hx u hux) (by simp only [maxLen]; omega) hbytes
  obtain ⟨p', rfl⟩ := Jfv h2
  rw [← List.flatten_append] at h2
  obtain ⟨hF', hS'⟩ := hS.turnOf hF hL' (C := J3 E sz (.slice p'.1 (m + q) p'.2) (m + q) (xs ++ news)) fun S1 hp => Jdi hp.2 h2 h3 h5 (by simp [hlen, hq]) (by
   intro x hx
   rcases List.mem_append.1 hx with h | h
   ·exact hlx x h
   ·exact hnl x h)
  unfold RunsTo
  rw [hr]
  exact ⟨p', rfl, hF', hS'⟩
theorem rep_flat (l : List Value) : ∀ (n j : Nat), j < n * l.length → (List.replicate n l).flatten[j]? = l[j % l.length]?
 | 0, j, h => by simp at h
 | n + 1, j, h => by
  rw [List.replicate_succ, List.flatten_cons]
  rcases Nat.lt_or_ge j l.length with hj | hj
  ·rw [List.getElem?_append_left hj, Nat.mod_eq_of_lt hj]
  ·rw [List.getElem?_append_right hj, rep_flat l n (j - l.length) (by rw [Nat.succ_mul] at h; omega), ← Nat.mod_eq_sub_mod hj]
theorem made_rep (z : Array Value) (n : Nat) (hz : 0 < z.size) : (madeCells z (n * z.size)).toList = (List.replicate n z.toList).flatten := by
 refine List.ext_getElem? fun j => ?_
 rcases Nat.lt_or_ge j (n * z.size) with hj | hj
 ·have h1 := rep_flat z.toList n j (by simpa using hj)
  rw [h1]
  have hm : j % z.size < z.size := Nat.mod_lt _ hz
  simp [madeCells, hj, hm]
 ·rw [List.getElem?_eq_none (by simpa [madeCells] using hj), List.getElem?_eq_none]
  rw [Jag (sz := z.size) _ (by intro x hx; rw [List.eq_of_mem_replicate hx]; simp)]
  simpa using hj
theorem Jdx {N C : Operand} {t E : TypeId} {I : TypeInfo} {z : Value} {sz by_ : Nat} {m c : Nat} {kl kc : IntKind} {rds : List Nat} {zs : List (List Value)} (ht : P.underlying t = some (.slice E)) (hi : P.info? E = some I) (hz : I.zero = some z) (hsize : I.size = sz) (hby : I.bytes = by_)
  (hzs : z.cells.toList.length = sz) (hsz : Nat.blt 0 sz = true) (hn : ev e N = .int kl (m : Int)) (hc : ev e C = .int kc (c : Int)) (hmc : m = c) (hb : by_ * c ≤ 281474976710656) (h63 : c ≤ 9223372036854775807) (hzz : zs = List.replicate m z.cells.toList) :
  Makes P cx e ⟨some d, .makeSlice t N C, ty, pos, af, g⟩ L rds (fun p : Option Addr × Nat => .slice p.1 m p.2) (fun p => J3 E sz (.slice p.1 m p.2) m zs) := fun w L' hF hS hi' => by
 subst hsize hby hmc hzz
 obtain ⟨w', hr, ho, hg⟩ := run_make_full (P := P) w 0 t E I z I.size ht hi hz rfl kl kc m hb (by simpa [maxLen] using h63) (Nat.zero_le _)
 have hsz' : 0 < I.size := by simpa using hsz
 have hzz : z.cells.size = I.size := by simpa using hzs
 have ho' : w'.ownsRow 0 E I.size (.slice (some ⟨w.heap.size, 0, none⟩) m m) m (List.replicate m z.cells.toList).flatten := by
  rw [← made_rep z.cells m (by omega), hzz]; exact ho
 unfold RunsTo
 simp only [execOp, hn, hc, hr, Sem.run_bind, Sem.run_pure, Result.andThen_ok]
 refine ⟨(_, _), rfl, hg.os, hg.tape, hg.output, hg.size, fun b hb _ => hg.block b hb (by simp), fun b => b = w.heap.size, ⟨⟨ho', by simp, fun x hx => by rw [List.eq_of_mem_replicate hx]; exact hzs⟩, fun b hb => ?_⟩, fun b hb => ?_⟩
 ·simp [Value.ownBlock] at hb; exact hb.symm
 ·subst hb
  exact ⟨(ho.lt _ rfl).2, .inr (Nat.le_refl _)⟩
def X0 (a : Option Addr) (l m sz : Nat) : Option Addr := if m = l then a else a.map (·.add (l * sz))
theorem Row.cut {w : World} {a : Option Addr} {sz : Nat} {xs : List (List Value)} (h : Row w a sz xs) (l q m : Nat) (hq : l + q ≤ m) : Row w (X0 a l m sz) sz ((xs.drop l).take q) := by
 rcases h with h | ⟨b, off, rfl, h⟩
 ·subst h; exact .inl (by simp)
 ·unfold X0
  by_cases hm : m = l
  ·have hq0 : q = 0 := by omega
   subst hq0
   exact .inl (by simp)
  ·rw [if_neg hm]
   refine .inr ⟨b, off + l * sz, by simp [Addr.add_lit], fun i x hx => ?_⟩
   rw [List.getElem?_take] at hx
   split at hx
   ·rw [List.getElem?_drop] at hx
    obtain ⟨h1, h2⟩ := h (l + i) x hx
    refine ⟨h1, fun j v hv => ?_⟩
    have := h2 j v hv
    rw [show off + l * sz + i * sz + j = off + (l + i) * sz + j from by rw [Nat.add_mul]; omega]
    exact this
   ·cases hx
theorem Jgy {t u : TypeId} (hu : P.underlying t = some (.slice u)) : P.elem t = u := by simp [Program.elem, hu]
theorem r_sliceL {d : Option Nat} {X A : Operand} {a : Option Addr} {m c : Nat} {t u sz : Nat} {ka : IntKind} {l : Int} (hu : P.underlying t = some (.slice u)) (hs : ∀ w, (sizeOf u).run P w = .ok sz w)
  (hx : ev e X = .slice a m c) (ha : ev e A = .int ka l) (h0 : 0 ≤ l) (h1 : l ≤ m) (w : World) :
  (execOp (ev e) ⟨d, .slice t X (some A) none none, ty, pos, af, g⟩).run P w = .ok (.value (.slice (X0 a l.toNat c sz) (m - l.toNat) (c - l.toNat))) w := by
 have hu' : P.underlying t = some (.slice (P.elem t)) := by rw [Jgy hu]; exact hu
 simp only [execOp, Option.map_some, Option.map_none, hx, ha, Sem.run_bind, run_sliceAt_slice w t _ _ _ _ hu', run_slice_l w t a m c hu' ka l h0 h1, Jgy hu, hs, Result.andThen_ok, Sem.run_pure, sliced, X0]
theorem r_sliceH {d : Option Nat} {X B : Operand} {a : Option Addr} {m c : Nat} {t u sz : Nat} {kb : IntKind} {h : Int} (hu : P.underlying t = some (.slice u)) (hs : ∀ w, (sizeOf u).run P w = .ok sz w)
  (hx : ev e X = .slice a m c) (hb : ev e B = .int kb h) (h0 : 0 ≤ h) (h2 : h ≤ c) (w : World) :
  (execOp (ev e) ⟨d, .slice t X none (some B) none, ty, pos, af, g⟩).run P w = .ok (.value (.slice (X0 a 0 c sz) h.toNat c)) w := by
 have hu' : P.underlying t = some (.slice (P.elem t)) := by rw [Jgy hu]; exact hu
 simp only [execOp, Option.map_some, Option.map_none, hx, hb, Sem.run_bind, run_sliceAt_slice w t _ _ _ _ hu', run_slice_h w t a m c hu' kb h h0 h2, Jgy hu, hs, Result.andThen_ok, Sem.run_pure, sliced, X0, Nat.sub_zero]
theorem r_sliceHM {d : Option Nat} {X B M : Operand} {a : Option Addr} {m c : Nat} {t u sz : Nat} {kb km : IntKind} {h q : Int} (hu : P.underlying t = some (.slice u)) (hs : ∀ w, (sizeOf u).run P w = .ok sz w)
  (hx : ev e X = .slice a m c) (hb : ev e B = .int kb h) (hm : ev e M = .int km q) (h0 : 0 ≤ h) (h1 : h ≤ q) (h2 : q ≤ c) (w : World) :
  (execOp (ev e) ⟨d, .slice t X none (some B) (some M), ty, pos, af, g⟩).run P w = .ok (.value (.slice (X0 a 0 q.toNat sz) h.toNat q.toNat)) w := by
 have hu' : P.underlying t = some (.slice (P.elem t)) := by rw [Jgy hu]; exact hu
 simp only [execOp, Option.map_some, Option.map_none, hx, hb, hm, Sem.run_bind, run_sliceAt_slice w t _ _ _ _ hu', run_slice_hm w t a m c hu' kb km h q h0 h1 h2, Jgy hu, hs, Result.andThen_ok, Sem.run_pure, sliced, X0, Nat.sub_zero]
theorem Ud {α : Type} {f : α → List Value} {ys ls : List α} {i k b : Nat} {S X : Operand} {t E T : TypeId} {I : TypeInfo} {z : Value} {sz by_ : Nat} {p : Option Addr × Nat} {m q : Nat} {cs : List Value} {xs : List (List Value)}
  (ht : P.underlying t = some (.slice E)) (hi : P.info? E = some I) (hz : I.zero = some z) (hsize : I.size = sz) (hby : I.bytes = by_) (hzs : z.cells.size = sz) (hsz : Nat.blt 0 sz = true)
  (hL : L[i]? = some (J3 E sz (.slice p.1 m p.2) m xs)) (hxs : xs = ys.map f) (hm : m = ys.length) (hs : ev e S = .slice p.1 m p.2) (hx : ev e X = .slice (some ⟨b, 0, none⟩) q q) (hk : L[k]? = some (Jn b cs T)) (hcs : (ls.map f).flatten = cs) (hq : (ls.map f).length = q)
  (hnl : ((ls.map f).all fun x => Nat.beq x.length sz) = true) (h1 : ((ls.map f).all fun x => x.all Value.oneCell') = true) (h63 : (ys ++ ls).length * by_ ≤ 140737488355328) (hb0 : Nat.blt 0 by_ = true) :
  Turns P cx e ⟨some d, .call ⟨.builtin .append, #[S, X], #[t, t]⟩, ty, pos, af, g⟩ L i [k] (fun p' : Option Addr × Nat => .slice p'.1 (ys ++ ls).length p'.2) (fun p' => J3 E sz (.slice p'.1 (ys ++ ls).length p'.2) (ys ++ ls).length ((ys ++ ls).map f)) := by
 subst hxs hm
 exact Jie ht hi hz hsize hby hzs hsz hL hs hx hq (fun x hx => by simpa using List.all_eq_true.1 hnl x hx) (fun w L' hF hS hj => W8 hS ((hj k (by simp)).trans hk) hcs hnl)
  (fun x hx u hu => List.all_eq_true.1 (List.all_eq_true.1 h1 x hx) u hu) (List.map_append (f := f) (l₁ := ys) (l₂ := ls)).symm (by rw [List.length_append, ← hq, List.length_map]) (by
   have hb : 1 ≤ by_ := by have : 0 < by_ := by simpa using hb0
                           omega
   have : (ys ++ ls).length * 1 ≤ (ys ++ ls).length * by_ := Nat.mul_le_mul_left _ hb
   omega) h63
theorem Jdt {w : World} {i E sz n c : Nat} {a : Option Addr} {xs : List (List Value)} (hS : Sat cx w L) (hL : L[i]? = some (J3 E sz (.slice a n c) n xs)) : n ≤ c := by
 obtain ⟨S, ⟨⟨h1, h2, h3⟩, _⟩, _⟩ := hS.at hL
 rcases h1.2 with ⟨hv, h0⟩ | ⟨g, cap, cur, hv, _, hh, hnc, _⟩
 ·simp only [Value.slice.injEq] at hv; omega
 ·simp only [Value.slice.injEq] at hv; omega
theorem Jib {a : Option Addr} {m c l : Nat} (sz : Nat) {x y : Nat} : (Value.slice (X0 a l m sz) x c).ownBlock = (Value.slice a y c).ownBlock := by
 unfold X0
 cases a with
 | none => split <;> rfl
 | some a =>
  split
  ·rfl
  ·simp only [Value.ownBlock, Option.map_some, Addr.add]
   split <;> rfl
theorem Jh5 {b m sz : Nat} {cs : List Value} {T E : TypeId} {xs : List (List Value)} (hT : T = E) (hcs : xs.flatten = cs) (hl : (xs.all fun x => Nat.beq x.length sz) = true) (hm : xs.length = m ∧ m ≤ 9223372036854775807) :
  Imp (Jn b cs T) (J3 E sz (.slice (some ⟨b, 0, none⟩) m m) m xs) := ⟨fun S w h => by
 subst hT hcs
 have hl' : ∀ x ∈ xs, x.length = sz := fun x hx => by simpa using List.all_eq_true.1 hl x hx
 have hf := Jag xs hl'
 refine ⟨⟨⟨by rw [hf, hm.1], .inr ⟨b, m, _, rfl, Nat.zero_le _, h.2, Nat.le_refl _, by simpa [maxLen] using hm.2, by simp [hf, hm.1], ?_⟩⟩, hm.1, hl'⟩, fun c hc => ?_⟩
 ·rw [List.toList_toArray, List.take_of_length_le (by rw [hf, hm.1]; omega)]
 ·simp [Value.ownBlock] at hc; exact (h.1 c).2 hc.symm⟩
end rules
end Go.Vc

namespace Go.Vc
open Go
section rules
variable {P : Program} {n : Nat} {cx : Cx} {Q : Jax} {e : Xl} {L : List Chunk} {ops : Array Oper} {F : Xl → List Chunk → Prop} {rest : List Oper} {ss : List Kd}
variable {d : Nat} {ty : TypeId} {pos : String} {af : Array Edge} {g : Option (Nat × Bool)}
theorem Jgd {sz : Nat} : ∀ (xs : List (List Value)) (i : Nat) (x : List Value), (∀ x ∈ xs, x.length = sz) → i < xs.length → (xs.set i x).flatten = xs.flatten.take (i * sz) ++ x ++ xs.flatten.drop ((i + 1) * sz)
 | [], i, x, _, h => by simp at h
 | y :: r, 0, x, hl, _ => by
  have hy := hl y (by simp)
  simp [hy.symm]
 | y :: r, i + 1, x, hl, h => by
  have hy := hl y (by simp)
  have ih := Jgd r i x (fun z hz => hl z (by simp [hz])) (by simpa using h)
  have e1 : (y ++ r.flatten).take ((i + 1) * sz) = y ++ r.flatten.take (i * sz) := by
   rw [List.take_append, List.take_of_length_le (l := y) (by rw [Nat.succ_mul]; omega), show (i + 1) * sz - y.length = i * sz from by rw [Nat.succ_mul]; omega]
  have e2 : (y ++ r.flatten).drop ((i + 1 + 1) * sz) = r.flatten.drop ((i + 1) * sz) := by
   rw [List.drop_append, List.drop_of_length_le (l := y) (by rw [Nat.succ_mul]; omega), show (i + 1 + 1) * sz - y.length = (i + 1) * sz from by rw [Nat.succ_mul (i + 1)]; omega, List.nil_append]
  rw [List.set_cons_succ, List.flatten_cons, ih, List.flatten_cons, e1, e2]
  simp
theorem flat_at {sz : Nat} (xs : List (List Value)) (i : Nat) (x : List Value) (hl : ∀ x ∈ xs, x.length = sz) (hx : xs[i]? = some x) : x = (xs.flatten.drop (i * sz)).take sz := by
 have hxl := hl x (List.mem_of_getElem? hx)
 refine List.ext_getElem? fun j => ?_
 rcases Nat.lt_or_ge j x.length with hj | hj
 ·have := Jex xs i x (List.all_eq_true.2 fun y hy => by simpa using hl y hy) hx j x[j] (by simp [hj])
  rw [List.getElem?_take, if_pos (by omega), List.getElem?_drop, this]
  simp [hj]
 ·rw [List.getElem?_eq_none hj, List.getElem?_take, if_neg (by omega)]
theorem set_cells {sz m i j : Nat} {cur vs : List Value} {xs : List (List Value)} {x x' : List Value} (hl : ∀ x ∈ xs, x.length = sz) (ht : cur.take (m * sz) = xs.flatten) (hm : xs.length = m) (hx : xs[i]? = some x) (hc : m * sz ≤ cur.length)
  (h1 : j + vs.length ≤ x.length) (h2 : x' = x.take j ++ vs ++ x.drop (j + vs.length)) :
  (cur.take (i * sz + j) ++ vs ++ cur.drop (i * sz + j + vs.length)).take (m * sz) = (xs.set i x').flatten := by
 have hi : i < xs.length := by
  rcases Nat.lt_or_ge i xs.length with h | h
  ·exact h
  ·simp [List.getElem?_eq_none h] at hx
 have hxl := hl x (List.mem_of_getElem? hx)
 have hle : (i + 1) * sz ≤ m * sz := Nat.mul_le_mul_right _ (by omega)
 rw [Nat.succ_mul] at hle
 have hfx := flat_at xs i x hl hx
 rw [Jgd xs i x' hl hi, h2, ← ht]
 rw [← ht] at hfx
 have hTl : (cur.take (m * sz)).length = m * sz := by simp; omega
 generalize hT : cur.take (m * sz) = T at *
 have hcur : cur = T ++ cur.drop (m * sz) := by rw [← hT, List.take_append_drop]
 have hTs : T = T.take (i * sz) ++ (x ++ T.drop ((i + 1) * sz)) := by
  conv => lhs; rw [← List.take_append_drop (i * sz) T]
  rw [hfx]
  congr 1
  rw [Nat.succ_mul, ← List.drop_drop, List.take_append_drop]
 have e1 : cur.take (i * sz + j) = T.take (i * sz) ++ x.take j := by
  rw [hcur, List.take_append_of_le_length (by omega)]
  conv => lhs; rw [hTs]
  rw [List.take_append, List.take_of_length_le (by simp; omega), List.length_take, Nat.min_eq_left (by omega), Nat.add_sub_cancel_left, List.take_append_of_le_length (by omega)]
 have e2 : cur.drop (i * sz + j + vs.length) = x.drop (j + vs.length) ++ (T.drop ((i + 1) * sz) ++ cur.drop (m * sz)) := by
  conv => lhs; rw [hcur, List.drop_append_of_le_length (by omega), hTs]
  rw [List.drop_append, List.drop_of_length_le (l := T.take (i * sz)) (by simp; omega), List.length_take, Nat.min_eq_left (by omega), Nat.add_assoc, Nat.add_sub_cancel_left, List.nil_append, List.drop_append_of_le_length (by omega)]
  simp
 rw [e1, e2]
 have e3 : T.take (i * sz) ++ List.take j x ++ vs ++ (List.drop (j + vs.length) x ++ (List.drop ((i + 1) * sz) T ++ List.drop (m * sz) cur)) = (T.take (i * sz) ++ (x.take j ++ vs ++ x.drop (j + vs.length)) ++ T.drop ((i + 1) * sz)) ++ cur.drop (m * sz) := by simp
 rw [e3, List.take_append_of_le_length, List.take_of_length_le]
 ·simp only [List.length_append, List.length_take, List.length_drop]; rw [Nat.succ_mul]; omega
 ·simp only [List.length_append, List.length_take, List.length_drop]; rw [Nat.succ_mul]; omega
theorem Jkv {T i j sz szT k m c : Nat} {A X : Operand} {x : Value} {a : Option Addr} {y y' vs : List Value} {xs : List (List Value)} {E : TypeId} {w : World} (hs : ∀ w, (sizeOf T).run P w = .ok szT w) (hp : ev e A = X1 a k) (hk : k = i * sz + j) (hx : ev e X = x) (hc : x.cells.toList = vs) (hsz : vs.length = szT)
  (hpos : Nat.blt 0 szT = true) (hone : vs.all Value.oneCell' = true) (hy : xs[i]? = some y) (hv : wr y j vs = some y') (ho : w.ownsRow 0 E sz (.slice a m c) m xs.flatten) (hm : xs.length = m) (hl : ∀ x ∈ xs, x.length = sz) :
  ∃ w', (execOp (ev e) ⟨none, .store T A X, ty, pos, af, g⟩).run P w = .ok .skip w' ∧ w'.ownsRow 0 E sz (.slice a m c) m (xs.set i y').flatten ∧ w.grownBy w' (Value.slice a m c).ownBlock := by
 have hpos' : 0 < vs.length := by rw [hsz]; simpa using hpos
 obtain ⟨h1, h2⟩ := wr_eq hv hpos'
 have hi : i < xs.length := by
  rcases Nat.lt_or_ge i xs.length with h | h
  ·exact h
  ·simp [List.getElem?_eq_none h] at hy
 rcases ho.2 with ⟨_, h0⟩ | ⟨g0, cap, cur, hv0, hb0, hh, hnc, hcm, hcs, htk⟩
 ·omega
 ·simp only [Value.slice.injEq] at hv0
  obtain ⟨rfl, _, rfl⟩ := hv0
  have hyl := hl y (List.mem_of_getElem? hy)
  have hcap : m * sz ≤ c * sz := Nat.mul_le_mul_right _ hnc
  have hle : (i + 1) * sz ≤ m * sz := Nat.mul_le_mul_right _ (by omega)
  rw [Nat.succ_mul] at hle
  have hst := run_storeCells_at P g0 k E vs 0 cur w hh (by rw [hk]; omega) (by simpa using hone)
  have hsz' : x.cells.size = szT := by rw [← hsz, ← hc]; simp
  have hp' : ev e A = .pointer (some ⟨g0, k, none⟩) := by rw [hp]; simp [X1]
  simp only [Nat.add_zero] at hst
  refine ⟨w.setRow g0 (cur.toList.take k ++ vs ++ cur.toList.drop (k + vs.length)).toArray, by
   simp only [execOp, Instr.storeAt, Instr.sureAddr, storeVar, hp', hx, Sem.run_bind, Sem.run_pure, Result.andThen_ok, hs, hsz', ne_eq, not_true_eq_false, if_false, hc, hst], ⟨?_, .inr ⟨g0, c, _, rfl, hb0, setRow_heap w g0 cur _ E _ hh, hnc, hcm, ?_, ?_⟩⟩, ⟨rfl, rfl, rfl, by simp, fun b _ hb => setRow_other w g0 b _ (fun e => hb (by simp [Value.ownBlock, e]))⟩⟩
  ·rw [Jag (sz := sz) _ (by
    intro z hz
    rcases List.mem_or_eq_of_mem_set hz with h | h
    ·exact hl z h
    ·subst h; rw [h2]; simp only [List.length_append, List.length_take, List.length_drop]; omega)]
   simp [hm]
  ·simp only [List.size_toArray, List.length_append, List.length_take, List.length_drop, Array.length_toList, hcs]
   rw [hk]; omega
  ·rw [List.toList_toArray, hk]
   exact set_cells hl htk hm hy (by simpa [hcs] using hcap) h1 h2
theorem l_storeR {q T i j sz szT k m c : Nat} {A X : Operand} {x : Value} {a : Option Addr} {y y' vs : List Value} {xs xs' : List (List Value)} {E : TypeId} (hs : ∀ w, (sizeOf T).run P w = .ok szT w)
  (hw : X3 ops ⟨none, .store T A X, ty, pos, af, g⟩ e = true) (hp : ev e A = X1 a k) (hk : k = i * sz + j) (hx : ev e X = x) (hc : x.cells.toList = vs) (hsz : vs.length = szT)
  (hpos : Nat.blt 0 szT = true) (hone : vs.all Value.oneCell' = true) (hL : L[q]? = some (J3 E sz (.slice a m c) m xs)) (hy : xs[i]? = some y) (hv : wr y j vs = some y') (hxs : xs.set i y' = xs')
  (k' : At cx (WL P n ops Q rest) e (L.set q (J3 E sz (.slice a m c) m xs'))) : At cx (WL P n ops Q (⟨none, .store T A X, ty, pos, af, g⟩ :: rest)) e L :=
 l_acts hw rfl fun w hF hS => by
  obtain ⟨S0, ⟨⟨ho, hlen, hlx⟩, hob⟩, _⟩ := hS.at hL
  obtain ⟨w', hr, h2, h3⟩ := Jkv (P := P) (ty := ty) (pos := pos) (af := af) (g := g) hs hp hk hx hc hsz hpos hone hy hv ho hlen hlx
  subst hxs
  have hpos' : 0 < vs.length := by rw [hsz]; simpa using hpos
  obtain ⟨g1, g2⟩ := wr_eq hv hpos'
  obtain ⟨hF', hS'⟩ := hS.turnOf hF hL (C := J3 E sz (.slice a m c) m (xs.set i y')) fun S1 hp => Jdi hp.2 h2 h3 (.inl rfl) (by simp [hlen]) (by
   intro z hz
   rcases List.mem_or_eq_of_mem_set hz with h | h
   ·exact hlx z h
   ·subst h; rw [g2]; have := hlx y (List.mem_of_getElem? hy); simp only [List.length_append, List.length_take, List.length_drop]; omega)
  exact ⟨w', hr, k'.out w' hF' hS'⟩
theorem Xv {T : TypeId} {I : TypeInfo} (h : ∀ w, (typeInfo T).run P w = .ok I w) : P.info? T = some I := by
 have := h default
 unfold typeInfo at this
 cases hi : P.info? T with
 | none => simp [hi] at this
 | some J => simp [hi] at this; rw [this]
theorem r_indexPA {d : Option Nat} {t u len sz b o : Nat} {X I : Operand} {k : IntKind} {i : Int} (hu : ∀ w, (underlying t).run P w = .ok (.array len u) w) (hs : ∀ w, (sizeOf u).run P w = .ok sz w)
  (hx : ev e X = .pointer (some ⟨b, o, none⟩)) (hi : ev e I = .int k i) (h0 : 0 ≤ i) (h1 : i < len) (w : World) :
  (execOp (ev e) ⟨d, .indexAddr t X I, ty, pos, af, g⟩).run P w = .ok (.value (.pointer (some ⟨b, o + i.toNat * sz, none⟩))) w := by
 simp [execOp, Instr.indexAt, Instr.sureAddr, hx, hi, asIntOf, hu, h0, h1, hs, Addr.add_lit]
abbrev str (s : List UInt8) : Value := .string ⟨s.toArray⟩
theorem Jkd (s : List UInt8) : (ByteArray.mk s.toArray).toList = s := by rw [ByteArray.toList_eq]
theorem Xc {d : Option Nat} {X : Operand} {s : List UInt8} {t : TypeId} (hu : P.underlying t = some .string) (hx : ev e X = str s) (w : World) :
  (execOp (ev e) ⟨d, .call ⟨.builtin .len, #[X], #[t]⟩, ty, pos, af, g⟩).run P w = .ok (.value (.int .i64 s.length)) w := by
 rw [r_lenS hu hx]; rfl
theorem r_concat {d : Option Nat} {t t' : TypeId} {X Y : Operand} {a b : List UInt8} (hx : ev e X = str a) (hy : ev e Y = str b) (hl : a.length + b.length ≤ 9223372036854775807) (w : World) :
  (execOp (ev e) ⟨d, .binOp .add t X Y t', ty, pos, af, g⟩).run P w = .ok (.value (str (a ++ b))) w := by
 have h := run_string_add_sum (P := P) w (ByteArray.mk a.toArray) (ByteArray.mk b.toArray) (by simpa [ByteArray.size] using hl)
 simp [execOp, hx, hy, eqGuard, binOp_string_add, h, ByteArray.mk_append_mk]
theorem Vl {d : Option Nat} {t t' : TypeId} {X Y : Operand} {a b : List UInt8} (hx : ev e X = str a) (hy : ev e Y = str b) (w : World) :
  (execOp (ev e) ⟨d, .binOp .eql t X Y t', ty, pos, af, g⟩).run P w = .ok (.value (.bool (decide (a = b)))) w := by
 have : (a == b) = decide (a = b) := by rw [Bool.eq_iff_iff]; simp
 simp [execOp, hx, hy, eqGuard, binOp_string_eql, this]
theorem Ja3 {d : Option Nat} {t t' : TypeId} {X Y : Operand} {a b : List UInt8} (hx : ev e X = str a) (hy : ev e Y = str b) (w : World) :
  (execOp (ev e) ⟨d, .binOp .neq t X Y t', ty, pos, af, g⟩).run P w = .ok (.value (.bool (decide (a ≠ b)))) w := by
 have : (a == b) = decide (a = b) := by rw [Bool.eq_iff_iff]; simp
 simp [execOp, hx, hy, eqGuard, binOp_string_neq, this]
theorem r_indexT {d : Option Nat} {t : TypeId} {X I : Operand} {s : List UInt8} {k : IntKind} {i : Int} (hu : P.underlying t = some .string) (hx : ev e X = str s) (hi : ev e I = .int k i) (h0 : 0 ≤ i) (h1 : i < s.length) (w : World) :
  (execOp (ev e) ⟨d, .index t X I, ty, pos, af, g⟩).run P w = .ok (.value (.int .u8 ((s.getD i.toNat 0).toNat : Nat))) w := by
 have hlt : i.toNat < s.length := by omega
 have h : (0 ≤ i ∧ i < ((ByteArray.mk s.toArray).size : Nat)) := ⟨h0, by simpa [ByteArray.size] using h1⟩
 simp only [execOp, hx, hi, Sem.run_bind, run_index_string w t _ k i hu, dif_pos h, Result.andThen_ok, Sem.run_pure]
 have : (ByteArray.mk s.toArray)[i.toNat]'(by simpa [ByteArray.size] using hlt) = s.getD i.toNat 0 := by
  rw [List.getD_eq_getElem?_getD, List.getElem?_eq_getElem hlt]; rfl
 rw [this]
theorem Jfy (s : List UInt8) (a b : Nat) : (ByteArray.mk s.toArray).extract a b = ByteArray.mk ((s.drop a).take (b - a)).toArray := ByteArray.extract_mk s a b
theorem r_cutT {d : Option Nat} {t : TypeId} {X A B : Operand} {s : List UInt8} {ka kb : IntKind} {l h : Int} (hu : P.underlying t = some .string) (hx : ev e X = str s) (ha : ev e A = .int ka l) (hb : ev e B = .int kb h) (h0 : 0 ≤ l) (h1 : l ≤ h) (h2 : h ≤ s.length) (w : World) :
  (execOp (ev e) ⟨d, .slice t X (some A) (some B) none, ty, pos, af, g⟩).run P w = .ok (.value (str ((s.drop l.toNat).take (h.toNat - l.toNat)))) w := by
 have h' := run_slice_string (P := P) w t (ByteArray.mk s.toArray) ka kb l h hu h0 h1 (by simpa [ByteArray.size] using h2)
 simp only [execOp, Option.map_some, Option.map_none, hx, ha, hb, Sem.run_bind, run_sliceAt_string w t _ _ _ _ hu, h', Result.andThen_ok, Sem.run_pure, Jfy]
theorem r_cutTo {d : Option Nat} {t : TypeId} {X B : Operand} {s : List UInt8} {kb : IntKind} {h : Int} (hu : P.underlying t = some .string) (hx : ev e X = str s) (hb : ev e B = .int kb h) (h0 : 0 ≤ h) (h2 : h ≤ s.length) (w : World) :
  (execOp (ev e) ⟨d, .slice t X none (some B) none, ty, pos, af, g⟩).run P w = .ok (.value (str (s.take h.toNat))) w := by
 have h' := run_slice_string_to_if (P := P) w t (ByteArray.mk s.toArray) kb h hu
 rw [if_pos ⟨h0, by simpa [ByteArray.size] using h2⟩] at h'
 simp only [execOp, Option.map_some, Option.map_none, hx, hb, Sem.run_bind, run_sliceAt_string w t _ _ _ _ hu, h', Result.andThen_ok, Sem.run_pure, Jfy, List.drop_zero, Nat.sub_zero]
theorem r_cutFrom {d : Option Nat} {t : TypeId} {X A : Operand} {s : List UInt8} {ka : IntKind} {l : Int} (hu : P.underlying t = some .string) (hx : ev e X = str s) (ha : ev e A = .int ka l) (h0 : 0 ≤ l) (h2 : l ≤ s.length) (w : World) :
  (execOp (ev e) ⟨d, .slice t X (some A) none none, ty, pos, af, g⟩).run P w = .ok (.value (str (s.drop l.toNat))) w := by
 have h' := run_slice_string_from_if (P := P) w t (ByteArray.mk s.toArray) ka l hu
 rw [if_pos ⟨h0, by simpa [ByteArray.size] using h2⟩] at h'
 have hs : (ByteArray.mk s.toArray).size = s.length := by simp [ByteArray.size]
 simp only [execOp, Option.map_some, Option.map_none, hx, ha, Sem.run_bind, run_sliceAt_string w t _ _ _ _ hu, h', Result.andThen_ok, Sem.run_pure, Jfy, hs]
 rw [List.take_of_length_le (by simp)]
end rules
end Go.Vc

namespace Go.Lx
open Go Go.Vc Go.Md
abbrev Jw := Nat → Option Obj
def Know (h : Jw) (w : World) (S : Nat → Prop) : Prop := ∀ b o, h b = some o → w.heap[b]? = some o ∧ ¬ S b
theorem Know.now {h : Jw} {w0 w : World} {S : Nat → Prop} (k : Know h w0 S) (hF : Fr ⟨w0, S⟩ w) (b : Nat) (o : Obj) (hb : h b = some o) : w.heap[b]? = some o := by
 obtain ⟨h1, h2⟩ := k b o hb
 have hlt : b < w0.heap.size := by
  rcases Nat.lt_or_ge b w0.heap.size with h | h
  ·exact h
  ·rw [Array.getElem?_eq_none h] at h1; cases h1
 have hn : ¬ (Cx.own ⟨w0, S⟩ b) := by
  rintro (h | h)
  ·exact absurd h (by show ¬ w0.heap.size ≤ b; omega)
  ·exact h2 h
 rw [hF.block b hn]
 exact h1
def RowH (h : Jw) (a : Option Addr) (sz : Nat) (xs : List (List Value)) : Prop :=
 xs = [] ∨ ∃ b off cs T m, a = some ⟨b, off, none⟩ ∧ h b = some (.cells cs T m) ∧ ∀ (i : Nat) (x : List Value), xs[i]? = some x → x.length = sz ∧ ∀ (j : Nat) (v : Value), x[j]? = some v → cs[off + i * sz + j]? = some v
theorem RowH.row {h : Jw} {w : World} {a : Option Addr} {sz : Nat} {xs : List (List Value)} (r : RowH h a sz xs) (k : ∀ b o, h b = some o → w.heap[b]? = some o) : Row w a sz xs := by
 rcases r with r | ⟨b, off, cs, T, m, ha, hb, r⟩
 ·exact .inl r
 ·refine .inr ⟨b, off, ha, fun i x hx => ⟨(r i x hx).1, fun j v hv => ?_⟩⟩
  have := (r i x hx).2 j v hv
  simp [World.cell?, k b _ hb, this]
structure FrS (h : Jw) (sz : Nat) (v : Value) (xs : List (List Value)) : Prop where
 out : ∃ a c, v = .slice a xs.length c ∧ xs.length ≤ c ∧ c ≤ 9223372036854775807 ∧ RowH h a sz xs
def sa : Value → Option Addr | .slice a _ _ => a | _ => none
def sc : Value → Nat | .slice _ _ c => c | _ => 0
theorem FrS.eq {h : Jw} {sz : Nat} {v : Value} {xs : List (List Value)} (f : FrS h sz v xs) : v = .slice (sa v) xs.length (sc v) := by
 obtain ⟨a, c, rfl, _⟩ := f.out; rfl
theorem FrS.len {h : Jw} {sz : Nat} {v : Value} {xs : List (List Value)} (f : FrS h sz v xs) : xs.length ≤ sc v ∧ sc v ≤ 9223372036854775807 := by
 obtain ⟨a, c, rfl, h1, h2, _⟩ := f.out; exact ⟨h1, h2⟩
theorem FrS.row {h : Jw} {sz : Nat} {v : Value} {xs : List (List Value)} (f : FrS h sz v xs) {w : World} (k : ∀ b o, h b = some o → w.heap[b]? = some o) : Row w (sa v) sz xs := by
 obtain ⟨a, c, rfl, _, _, r⟩ := f.out; exact r.row k
theorem FrS.nil (h : Jw) (sz : Nat) : FrS h sz (.slice none 0 0) [] := ⟨none, 0, rfl, by simp, by simp, .inl rfl⟩
theorem RowH.cut {h : Jw} {a : Option Addr} {sz : Nat} {xs : List (List Value)} (r : RowH h a sz xs) (l q m : Nat) (hq : l + q ≤ m) : RowH h (X0 a l m sz) sz ((xs.drop l).take q) := by
 rcases r with r | ⟨b, off, cs, T, m', rfl, hb, r⟩
 ·subst r; exact .inl (by simp)
 ·unfold X0
  by_cases hm : m = l
  ·have hq0 : q = 0 := by omega
   subst hq0
   exact .inl (by simp)
  ·rw [if_neg hm]
   refine .inr ⟨b, off + l * sz, cs, T, m', by simp [Addr.add_lit], hb, fun i x hx => ?_⟩
   rw [List.getElem?_take] at hx
   split at hx
   ·rw [List.getElem?_drop] at hx
    obtain ⟨h1, h2⟩ := r (l + i) x hx
    refine ⟨h1, fun j v hv => ?_⟩
    have := h2 j v hv
    rw [show off + l * sz + i * sz + j = off + (l + i) * sz + j from by rw [Nat.add_mul]; omega]
    exact this
   ·cases hx
def cutV (sz : Nat) (v : Value) (l h : Int) : Value := .slice (X0 (sa v) l.toNat (sc v) sz) (h.toNat - l.toNat) (sc v - l.toNat)
theorem FrS.cut {α : Type} {h : Jw} {sz : Nat} {v : Value} {f : α → List Value} {xs ys : List α} {l q : Int} (s : FrS h sz v (xs.map f)) (e : Xx xs l q = some ys) : FrS h sz (cutV sz v l q) (ys.map f) := by
 obtain ⟨a, c, rfl, h1, h2, r⟩ := s.out
 obtain ⟨g0, g1, g2, rfl⟩ := Z0 e
 have hl : ((xs.drop l.toNat).take (q.toNat - l.toNat)).length = q.toNat - l.toNat := by
  rw [List.length_take, List.length_drop]; omega
 simp only [List.length_map] at h1
 refine ⟨⟨X0 a l.toNat c sz, c - l.toNat, ?_, ?_, by omega, ?_⟩⟩
 ·simp only [cutV, sa, sc, List.length_map, hl]
 ·rw [List.length_map, hl]; omega
 ·rw [List.map_take, List.map_drop]
  exact r.cut _ _ _ (by omega)
theorem FrS.mono {h h' : Jw} {sz : Nat} {v : Value} {xs : List (List Value)} (s : FrS h sz v xs) (le : ∀ b o, h b = some o → h' b = some o) : FrS h' sz v xs := by
 obtain ⟨a, c, rfl, h1, h2, r⟩ := s.out
 refine ⟨a, c, rfl, h1, h2, ?_⟩
 rcases r with r | ⟨b, off, cs, T, m, ha, hb, r⟩
 ·exact .inl r
 ·exact .inr ⟨b, off, cs, T, m, ha, le b _ hb, r⟩
section ops
variable {P : Program} {e : Xl} {d : Option Nat} {ty : TypeId} {pos : String} {af : Array Edge} {g : Option (Nat × Bool)}
section bin
variable {X Y : Operand} {x y z : Int} {t t' : TypeId} {kd k2 : IntKind}
theorem J8 (hx : ev e X = .int .i64 x) (hy : ev e Y = .int .i64 y) (h : gI (x + y) = some z) (w : World) :
  (execOp (ev e) ⟨d, .binOp .add t X Y t', ty, pos, af, g⟩).run P w = .ok (.value (.int .i64 z)) w := by
 obtain ⟨rfl, hb⟩ := Jd7 h; exact r_add hx hy hb w
theorem Vh (hx : ev e X = .int .i64 x) (hy : ev e Y = .int .i64 y) (h : gI (x - y) = some z) (w : World) :
  (execOp (ev e) ⟨d, .binOp .sub t X Y t', ty, pos, af, g⟩).run P w = .ok (.value (.int .i64 z)) w := by
 obtain ⟨rfl, hb⟩ := Jd7 h; exact r_sub hx hy hb w
theorem Jhj (hx : ev e X = .int .i64 x) (hy : ev e Y = .int .i64 y) (h : gI (x * y) = some z) (w : World) :
  (execOp (ev e) ⟨d, .binOp .mul t X Y t', ty, pos, af, g⟩).run P w = .ok (.value (.int .i64 z)) w := by
 obtain ⟨rfl, hb⟩ := Jd7 h; exact r_mul hx hy hb w
theorem r_quoG (hx : ev e X = .int .i64 x) (hy : ev e Y = .int .i64 y) (h : gQuo x y = some z) (w : World) :
  (execOp (ev e) ⟨d, .binOp .quo t X Y t', ty, pos, af, g⟩).run P w = .ok (.value (.int .i64 z)) w := by
 obtain ⟨h0, rfl, hb⟩ := gQuo_some h
 exact Jez hx hy (fun w => by simp [binOp, Op.intDiv, h0, IntWalk.i64_in _ hb]) w
theorem r_remG (hx : ev e X = .int kd x) (hy : ev e Y = .int kd y) (h : gRem x y = some z) (w : World) :
  (execOp (ev e) ⟨d, .binOp .rem t X Y t', ty, pos, af, g⟩).run P w = .ok (.value (.int kd z)) w := by
 obtain ⟨h0, rfl⟩ := gRem_some h; exact r_rem hx hy h0 w
end bin
theorem Z8 {X : Operand} {t u sz : TypeId} {h : Jw} {v : Value} {xs : List (List Value)} {α : Type} {ys : List α} {f : α → List Value} (hu : P.underlying t = some (.slice u)) (hx : ev e X = v) (hs : FrS h sz v xs) (hxs : xs = ys.map f) (w : World) :
  (execOp (ev e) ⟨d, .call ⟨.builtin .len, #[X], #[t]⟩, ty, pos, af, g⟩).run P w = .ok (.value (.int .i64 ys.length)) w := by
 have := Wl (P := P) (d := d) (ty := ty) (pos := pos) (af := af) (g := g) hu (hx.trans hs.eq) w
 rw [this, hxs, List.length_map]
theorem Q7 {X I : Operand} {t u sz : Nat} {h : Jw} {v : Value} {α : Type} {f : α → List Value} {xs : List α} {x : α} {k : IntKind} {i : Int} (hu : P.underlying t = some (.slice u)) (hs : ∀ w, (sizeOf u).run P w = .ok sz w)
  (hx : ev e X = v) (hi : ev e I = .int k i) (hf : FrS h sz v (xs.map f)) (hg : Yv xs i = some x) (w : World) :
  (execOp (ev e) ⟨d, .indexAddr t X I, ty, pos, af, g⟩).run P w = .ok (.value (X1 (sa v) (i.toNat * sz))) w := by
 obtain ⟨h0, h1, h2⟩ := Vn hg
 obtain ⟨a, c, rfl, _, _, r⟩ := hf.out
 have ha : ∃ b off, a = some ⟨b, off, none⟩ := by
  rcases r with r | ⟨b, off, cs, T, m, ha, _⟩
  ·simp at r; subst r; simp at h1
  ·exact ⟨b, off, ha⟩
 exact r_index hu hs hx hi ha h0 (by rw [List.length_map]; omega) w
theorem Jj1 {h : Jw} {sz : Nat} {v : Value} {α : Type} {f : α → List Value} {xs : List α} {x : α} {i : Int} (hf : FrS h sz v (xs.map f)) (hg : Yv xs i = some x) : ∃ b off, sa v = some ⟨b, off, none⟩ := by
 obtain ⟨h0, h1, h2⟩ := Vn hg
 obtain ⟨a, c, rfl, _, _, r⟩ := hf.out
 rcases r with r | ⟨b, off, cs, T, m, ha, _⟩
 ·simp at r; subst r; simp at h1
 ·exact ⟨b, off, ha⟩
theorem map_at {α : Type} {f : α → List Value} {xs : List α} {x : α} {i : Int} (hg : Yv xs i = some x) : (xs.map f)[i.toNat]? = some (f x) := by
 obtain ⟨h0, h1, h2⟩ := Vn hg
 rw [List.getElem?_map, h2]; rfl
theorem Qx {X I : Operand} {a : Option Addr} {m c : Nat} {t u sz sz' : Nat} {k : IntKind} {i : Int} {α : Type} {f : α → List Value} {xs : List α} {x : α} {w : World} (hu : P.underlying t = some (.slice u)) (hs : ∀ w, (sizeOf u).run P w = .ok sz w)
  (hx : ev e X = .slice a m c) (hi : ev e I = .int k i) (hR : Row w a sz' (xs.map f)) (hm : m = xs.length) (hg : Yv xs i = some x) :
  (execOp (ev e) ⟨d, .indexAddr t X I, ty, pos, af, g⟩).run P w = .ok (.value (X1 a (i.toNat * sz))) w := by
 obtain ⟨h0, h1, h2⟩ := Vn hg
 exact r_index hu hs hx hi (hR.some (i := i.toNat) (by simpa using h1)) h0 (by omega) w
theorem Qb {T k : Nat} {a : Option Addr} {A : Operand} {sz j : Nat} {α : Type} {f : α → List Value} {xs : List α} {x : α} {i : Int} {v : Value} {w : World} (hA : ∀ w, (isAgg T).run P w = .ok false w)
  (hp : ev e A = X1 a k) (hk : k = i.toNat * sz + j) (hr : Row w a sz (xs.map f)) (hg : Yv xs i = some x) (hv : rg (f x) j = some v) :
  (execOp (ev e) ⟨d, .load T A, ty, pos, af, g⟩).run P w = .ok (.value v) w :=
 run_loadP1 (i := i.toNat) (j := j) hA hp hk hr (map_at hg) hv
theorem Yl {T k m : Nat} {a : Option Addr} {A : Operand} {sz j : Nat} {α : Type} {f : α → List Value} {xs : List α} {x : α} {i : Int} {vs : List Value} {w : World} (hA : ∀ w, (isAgg T).run P w = .ok true w) (hs : ∀ w, (sizeOf T).run P w = .ok m w)
  (hp : ev e A = X1 a k) (hk : k = i.toNat * sz + j) (hr : Row w a sz (xs.map f)) (hg : Yv xs i = some x) (hv : rd (f x) j m = some vs) :
  (execOp (ev e) ⟨d, .load T A, ty, pos, af, g⟩).run P w = .ok (.value (.agg vs.toArray)) w :=
 run_loadPN (i := i.toNat) (j := j) hA hs hp hk hr (map_at hg) hv
theorem Qw {t t' : TypeId} {X Y : Operand} {a b c : List UInt8} (hx : ev e X = str a) (hy : ev e Y = str b) (h : Xh a b = some c) (w : World) :
  (execOp (ev e) ⟨d, .binOp .add t X Y t', ty, pos, af, g⟩).run P w = .ok (.value (str c)) w := by
 obtain ⟨rfl, hl⟩ := gCat_some h; exact r_concat hx hy hl w
theorem Zs {t : TypeId} {X I : Operand} {s : List UInt8} {k : IntKind} {i c : Int} (hu : P.underlying t = some .string) (hx : ev e X = str s) (hi : ev e I = .int k i) (h : Xy s i = some c) (w : World) :
  (execOp (ev e) ⟨d, .index t X I, ty, pos, af, g⟩).run P w = .ok (.value (.int .u8 c)) w := by
 obtain ⟨h0, h1, rfl⟩ := gOct_some h; exact r_indexT hu hx hi h0 h1 w
theorem r_cutTG {t : TypeId} {X A B : Operand} {s u : List UInt8} {ka kb : IntKind} {l h : Int} (hu : P.underlying t = some .string) (hx : ev e X = str s) (ha : ev e A = .int ka l) (hb : ev e B = .int kb h) (hg : Xx s l h = some u) (w : World) :
  (execOp (ev e) ⟨d, .slice t X (some A) (some B) none, ty, pos, af, g⟩).run P w = .ok (.value (str u)) w := by
 obtain ⟨h0, h1, h2, rfl⟩ := Z0 hg; exact r_cutT hu hx ha hb h0 h1 h2 w
theorem Jco {t : TypeId} {X B : Operand} {s u : List UInt8} {kb : IntKind} {h : Int} (hu : P.underlying t = some .string) (hx : ev e X = str s) (hb : ev e B = .int kb h) (hg : Xx s 0 h = some u) (w : World) :
  (execOp (ev e) ⟨d, .slice t X none (some B) none, ty, pos, af, g⟩).run P w = .ok (.value (str u)) w := by
 obtain ⟨h0, h1, h2, rfl⟩ := Z0 hg
 have := r_cutTo (P := P) (d := d) (ty := ty) (pos := pos) (af := af) (g := g) hu hx hb h1 h2 w
 simpa using this
theorem Zi {t : TypeId} {X A : Operand} {s u : List UInt8} {ka : IntKind} {l : Int} (hu : P.underlying t = some .string) (hx : ev e X = str s) (ha : ev e A = .int ka l) (hg : Xx s l s.length = some u) (w : World) :
  (execOp (ev e) ⟨d, .slice t X (some A) none none, ty, pos, af, g⟩).run P w = .ok (.value (str u)) w := by
 obtain ⟨h0, h1, h2, rfl⟩ := Z0 hg
 have := r_cutFrom (P := P) (d := d) (ty := ty) (pos := pos) (af := af) (g := g) hu hx ha h0 h1 w
 rw [this, List.take_of_length_le (by simp)]
end ops
section rules
variable {P : Program} {n : Nat} {cx : Cx} {Q : Jax} {e : Xl} {L : List Chunk} {ops : Array Oper} {F : Xl → List Chunk → Prop} {rest : List Oper} {ss : List Kd}
structure RoundA {σ τ : Type} (cx : Cx) (st : σ → τ → List (Nat × Value)) (hp : σ → τ → List Chunk) (I : σ → τ → Nat → Prop) (m : Nat) (e : Xl) (w : World) : Prop where
 out : ∃ s t k, Jh4 e (st s t) ∧ Fr cx w ∧ Sat cx w (hp s t) ∧ I s t k ∧ k < m
theorem Xu {σ τ ρ : Type} {c : Code} {r : ρ} (B : (σ → Option ρ) → σ → Option ρ) (st : σ → τ → List (Nat × Value)) (hp : σ → τ → List Chunk) (G : σ → τ → Prop) (s0 : σ) (t0 : τ) (sel : List Nat)
  (H : Yz B s0 = some r) (hG : G s0 t0) (hst : Jh4 e (st s0 t0)) (hnd : sel.Nodup) (hL : sel.map (fun i => L[i]?) = (hp s0 t0).map some)
  (round : ∀ (s : σ) (t : τ) (m : Nat) (g : Xl), B (it B m) s = some r → G s t →
   At cx (WC P n c (ThenQ (RoundA cx st hp (fun s t k => it B k s = some r ∧ G s t) (m + 1)) Q)) (mkE (st s t) g) (hp s t)) :
  At cx (WC P n (.loop c) Q) e L :=
 ⟨fun w hF hS => ⟨fun a ha => by
  obtain ⟨m0, hm0⟩ := Jfz H
  refine wp_loop_ghost (fun m a' w' => ∃ e' s t, Sim n a' e' ∧ Jh4 e' (st s t) ∧ Fr cx w' ∧ Sat cx w' (hp s t) ∧ it B m s = some r ∧ G s t) m0 ⟨e, s0, t0, ha, hst, hF, hS.select sel hnd hL, hm0, hG⟩ ?_
  rintro m a w ⟨e', s, t, ha, hst, hF, hS, hI, hg⟩
  cases m with
  | zero => cases hI
  | succ m =>
   have hr := ((round s t m e' hI hg).out w hF hS).out a (by rw [Jkf e' _ hst]; exact ha)
   refine wp_mono hr ?_
   rintro x a' w' ⟨e'', hs', hq⟩
   cases x with
   | normal =>
    obtain ⟨s', t', m', h1, h3, h4, ⟨h5, h7⟩, h6⟩ := hq.out
    exact ⟨m', h6, e'', s', t', hs', h1, h3, h4, h5, h7⟩
   | exit i => exact ⟨e'', hs', hq⟩
   | goto i => exact ⟨e'', hs', hq⟩
   | ret => exact ⟨e'', hs', hq⟩
   | panic i => exact ⟨e'', hs', hq⟩
   | outgrown => exact ⟨e'', hs', hq⟩⟩⟩
theorem Ze {σ τ : Type} {st : σ → τ → List (Nat × Value)} {hp : σ → τ → List Chunk} {I : σ → τ → Nat → Prop} {m : Nat} (s : σ) (t : τ) (k : Nat) (sel : List Nat) (hst : Jh4 e (st s t)) (hnd : sel.Nodup) (hL : sel.map (fun i => L[i]?) = (hp s t).map some) (hI : I s t k) (hm : k < m) :
  At cx (RoundA cx st hp I m) e L :=
 ⟨fun _ hF hS => ⟨s, t, k, hst, hF, hS.select sel hnd hL, hI, hm⟩⟩
theorem Qe {σ τ ρ : Type} {x y : Code} {r : ρ} (J : σ → Option ρ) (st : σ → τ → List (Nat × Value)) (hp : σ → τ → List Chunk) (G : σ → τ → Prop)
  (h1 : At cx (WC P n x (ThenQ (RoundA cx st hp (fun s t _ => J s = some r ∧ G s t) 1) Q)) e L)
  (h2 : ∀ (s : σ) (t : τ) (g : Xl), J s = some r → G s t → At cx (WC P n y Q) (mkE (st s t) g) (hp s t)) : At cx (WC P n (.seq x y) Q) e L :=
 Jc ⟨fun w hF hS => ⟨fun a ha => Code.wp_mono (fun x' a' w' hq => by
  obtain ⟨e', hs, hq⟩ := hq
  cases x' with
  | normal =>
   obtain ⟨s, t, m, g1, g3, g4, ⟨g5, g7⟩, _⟩ := hq.out
   exact ⟨e', hs, by
    have := (h2 s t e' g5 g7).out w' g3 g4
    rwa [Jkf e' _ g1] at this⟩
  | exit i => exact ⟨e', hs, hq⟩
  | goto i => exact ⟨e', hs, hq⟩
  | ret => exact ⟨e', hs, hq⟩
  | panic i => exact ⟨e', hs, hq⟩
  | outgrown => exact ⟨e', hs, hq⟩) ((h1.out w hF hS).out a ha)⟩⟩
theorem Ju (w : World) : Know (fun b => w.heap[b]?) w Ys := fun b o h => ⟨h, fun x => x⟩
theorem Jct {α : Type} {w : World} {i E sz n : Nat} {p : Option Addr × Nat} {xs : List α} {f : α → List Value} (hn : n = xs.length) (hS : Sat cx w L) (hL : L[i]? = some (J3 E sz (.slice p.1 n p.2) n (xs.map f))) : FrS (fun b => w.heap[b]?) sz (.slice p.1 n p.2) (xs.map f) := by
 subst hn
 obtain ⟨S, ⟨⟨h1, h2, h3⟩, _⟩, _⟩ := hS.at hL
 have hr := Jgl h1 h2 h3
 rcases h1.2 with ⟨hv, h0⟩ | ⟨g, cap, cur, hv, _, hh, hnc, hm, hcs, ht⟩
 ·simp only [Value.slice.injEq] at hv
  have hxs : xs = [] := List.eq_nil_of_length_eq_zero h0
  subst hxs
  refine ⟨⟨p.1, p.2, by simp, by simp, by omega, .inl (by simp)⟩⟩
 ·simp only [Value.slice.injEq] at hv
  obtain ⟨hp, _, hc⟩ := hv
  refine ⟨⟨p.1, p.2, by simp, by rw [List.length_map, hc]; exact hnc, by rw [hc]; simpa [maxLen] using hm, ?_⟩⟩
  rcases hr with hr | ⟨b, off, ha, hr⟩
  ·exact .inl hr
  ·rw [hp] at ha
   simp only [Option.some.injEq, Addr.mk.injEq] at ha
   obtain ⟨rfl, rfl, _⟩ := ha
   refine .inr ⟨g, 0, cur, E, _, hp, hh, fun i x hx => ⟨(hr i x hx).1, fun j v hv => ?_⟩⟩
   have := (hr i x hx).2 j v hv
   simpa [World.cell?, hh] using this
end rules
end Go.Lx
