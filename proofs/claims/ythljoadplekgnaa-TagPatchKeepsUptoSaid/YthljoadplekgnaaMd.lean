/- Models: partial functions in plain Lean that stand for Go functions, the guards of single operations, and one way to loop and to recur. Conditions: none. -/
import GoSem.Step
import Derived.Shelf.SlGeneric
import Derived.Shelf.SlicesG.Cmp
import Derived.Shelf.SlSortCmp.WholeK
import Derived.Shelf.Small.Bits
import Derived.Ground.SlsfProg
import Derived.Ground.SlgcProg
import Derived.Test.YthljoadplekgnaaProg
import Derived.Orders
import Derived.Tactics
import Derived.Below
import Derived.KernelRfl
import Derived.Laws.Cells
import Derived.Laws.CopyRow
import Derived.Laws.Externs
import Derived.IntWalk
import Derived.Deep.LoopGhost
import Derived.LoopN
import Derived.Laws.StructEq
import Derived.Maps.AppendAt
import Derived.Laws.OwnMore
import Derived.Laws.Slices
import Derived.Laws.Strings3
import Derived.Laws.Concat
namespace Go.Md
def Jz {α β : Type} (m : Option α) (k : α → Option β) : Option β :=
 match m with
 | some a => k a
 | none => none
theorem Je {α β : Type} {m : Option α} {k : α → Option β} {r : β} (h : Jz m k = some r) : ∃ a, m = some a ∧ k a = some r := by
 cases m with
 | none => cases h
 | some a => exact ⟨a, rfl, h⟩
@[simp] theorem Jb {α β : Type} (a : α) (k : α → Option β) : Jz (some a) k = k a := rfl
@[simp] theorem bnd_none {α β : Type} (k : α → Option β) : Jz none k = none := rfl
def val {α : Type} [Inhabited α] (m : Option α) : α := m.getD default
theorem Jx {α β : Type} [Inhabited α] {m : Option α} {k : α → Option β} {r : β} (h : Jz m k = some r) : m = some (val m) := by
 cases m with
 | none => cases h
 | some a => rfl
theorem Jq {α β : Type} [Inhabited α] {m : Option α} {k : α → Option β} {r : β} (h : Jz m k = some r) : k (val m) = some r := by
 cases m with
 | none => cases h
 | some a => exact h
def Qv {α : Type} (b : Bool) (x y : Option α) : Option α := match b with | true => x | false => y
theorem Jbm {α : Type} {b : Bool} {x y : Option α} {r : Option α} (hb : b = true) (h : Qv b x y = r) : x = r := by subst hb; exact h
theorem Jbr {α : Type} {b : Bool} {x y : Option α} {r : Option α} (hb : b = false) (h : Qv b x y = r) : y = r := by subst hb; exact h
@[simp] theorem Xf {α : Type} (x y : Option α) : Qv true x y = x := rfl
@[simp] theorem Qm {α : Type} (x y : Option α) : Qv false x y = y := rfl
theorem cnd_if {α : Type} (p : Prop) [Decidable p] (x y : Option α) : Qv (decide p) x y = if p then x else y := by
 by_cases h : p <;> simp [h]
def it {α ρ : Type} (F : (α → Option ρ) → α → Option ρ) : Nat → α → Option ρ
 | 0, _ => none
 | n + 1, a => F (it F n) a
open Classical in
noncomputable def Wq {α ρ : Type} (F : (α → Option ρ) → α → Option ρ) (a : α) : Option ρ :=
 if h : ∃ r k, ∀ n, k ≤ n → it F n a = some r then some (Classical.choose h) else none
theorem Jfx {α ρ : Type} {F : (α → Option ρ) → α → Option ρ} {a : α} {r : ρ} (h : Wq F a = some r) : ∃ n, it F n a = some r := by
 unfold Wq at h
 split at h
 ·rename_i hh
  cases h
  obtain ⟨k, hk⟩ := Classical.choose_spec hh
  exact ⟨k, hk k (Nat.le_refl _)⟩
 ·cases h
theorem Jfl {α ρ : Type} {F : (α → Option ρ) → α → Option ρ} {a : α} {o : Option ρ} {k : Nat} (h : ∀ n, k ≤ n → it F n a = o) : Wq F a = o := by
 unfold Wq
 cases o with
 | some r =>
  have hh : ∃ r k, ∀ n, k ≤ n → it F n a = some r := ⟨r, k, h⟩
  rw [dif_pos hh]
  obtain ⟨k', hk'⟩ := Classical.choose_spec hh
  have h1 := hk' (max k k') (Nat.le_max_right _ _)
  rw [h _ (Nat.le_max_left _ _)] at h1
  exact h1.symm
 | none =>
  rw [dif_neg]
  rintro ⟨r, k', hk'⟩
  have h1 := hk' (max k k') (Nat.le_max_right _ _)
  rw [h _ (Nat.le_max_left _ _)] at h1
  cases h1
theorem fix_of {α ρ : Type} {F : (α → Option ρ) → α → Option ρ} (spec : α → Option ρ) (I : α → Prop) (μ : α → Nat)
  (step : ∀ (next : α → Option ρ) (a : α), I a → (∀ b, I b → μ b < μ a → next b = spec b) → F next a = spec a) (a : α) (ha : I a) : Wq F a = spec a := by
 have key : ∀ (n : Nat) (a : α), I a → μ a < n → it F n a = spec a := by
  intro n
  induction n with
  | zero => intro a _ h; omega
  | succ n ih => intro a ha h; exact step _ a ha fun b hb hlt => ih b hb (by omega)
 exact Jfl (k := μ a + 1) fun n hn => key n a ha (by omega)
theorem it_ev {α ρ : Type} {F : (α → Option ρ) → α → Option ρ} {a b : α} (h : ∀ next, F next a = next b) : Wq F a = Wq F b := by
 by_cases hb : ∃ r k, ∀ n, k ≤ n → it F n b = some r
 ·obtain ⟨r, k, hk⟩ := hb
  rw [Jfl (o := some r) (k := k) hk, Jfl (o := some r) (k := k + 1)]
  intro n hn
  cases n with
  | zero => omega
  | succ n => show F (it F n) a = some r; rw [h]; exact hk n (by omega)
 ·have ha : ¬ ∃ r k, ∀ n, k ≤ n → it F n a = some r := by
   rintro ⟨r, k, hk⟩
   exact hb ⟨r, k, fun n hn => by have := hk (n + 1) (by omega); rw [show it F (n + 1) a = F (it F n) a from rfl, h] at this; exact this⟩
  unfold Wq
  rw [dif_neg hb, dif_neg ha]
theorem Xv {α ρ : Type} {F : (α → Option ρ) → α → Option ρ} {a : α} (b : α) (h : ∀ next, F next a = next b) : Wq F a = Wq F b := it_ev h
theorem Qz {α ρ : Type} {F : (α → Option ρ) → α → Option ρ} {a : α} {o : Option ρ} (h : ∀ next, F next a = o) : Wq F a = o :=
 Jfl (k := 1) fun n hn => by
  cases n with
  | zero => omega
  | succ n => exact h _
def gI (x : Int) : Option Int := if -9223372036854775808 ≤ x ∧ x ≤ 9223372036854775807 then some x else none
theorem Jgw {x y : Int} (h : gI x = some y) : y = x ∧ -9223372036854775808 ≤ x ∧ x ≤ 9223372036854775807 := by
 unfold gI at h; split at h
 ·cases h; exact ⟨rfl, ‹_›⟩
 ·cases h
theorem J2 {x : Int} (h : -9223372036854775808 ≤ x ∧ x ≤ 9223372036854775807) : gI x = some x := if_pos h
def gQuo (x y : Int) : Option Int := if y = 0 then none else gI (x.tdiv y)
theorem gQuo_some {x y z : Int} (h : gQuo x y = some z) : y ≠ 0 ∧ z = x.tdiv y ∧ -9223372036854775808 ≤ x.tdiv y ∧ x.tdiv y ≤ 9223372036854775807 := by
 unfold gQuo at h; split at h
 ·cases h
 ·exact ⟨‹_›, Jgw h⟩
def gRem (x y : Int) : Option Int := if y = 0 then none else some (x.tmod y)
theorem gRem_some {x y z : Int} (h : gRem x y = some z) : y ≠ 0 ∧ z = x.tmod y := by
 unfold gRem at h; split at h
 ·cases h
 ·cases h; exact ⟨‹_›, rfl⟩
theorem gRem_ok {x y : Int} (hy : y ≠ 0) : gRem x y = some (x.tmod y) := if_neg hy
def Q9 {α : Type} (xs : List α) (i : Int) : Option α := if 0 ≤ i then xs[i.toNat]? else none
theorem Y3 {α : Type} {xs : List α} {i : Int} {x : α} (h : Q9 xs i = some x) : 0 ≤ i ∧ i.toNat < xs.length ∧ xs[i.toNat]? = some x := by
 unfold Q9 at h; split at h
 ·refine ⟨‹_›, ?_, h⟩
  rcases Nat.lt_or_ge i.toNat xs.length with h' | h'
  ·exact h'
  ·rw [List.getElem?_eq_none h'] at h; cases h
 ·cases h
theorem Qn {α : Type} {xs : List α} {k : Nat} (h : k < xs.length) : Q9 xs (k : Int) = some xs[k] := by
 unfold Q9; rw [if_pos (by omega), Int.toNat_natCast, List.getElem?_eq_getElem h]
theorem Jf0 {α : Type} {xs : List α} {i : Int} (h0 : 0 ≤ i) (h : i.toNat < xs.length) : Q9 xs i = some xs[i.toNat] := by
 unfold Q9; rw [if_pos h0, List.getElem?_eq_getElem h]
def gSet {α : Type} (xs : List α) (i : Int) (x : α) : Option (List α) := if 0 ≤ i ∧ i.toNat < xs.length then some (xs.set i.toNat x) else none
theorem Ja9 {α : Type} {xs ys : List α} {i : Int} {x : α} (h : gSet xs i x = some ys) : 0 ≤ i ∧ i.toNat < xs.length ∧ ys = xs.set i.toNat x := by
 unfold gSet at h; split at h
 ·cases h; exact ⟨‹_ ∧ _›.1, ‹_ ∧ _›.2, rfl⟩
 ·cases h
theorem Jcu {α : Type} {xs : List α} {i : Int} {x : α} (h0 : 0 ≤ i) (h : i.toNat < xs.length) : gSet xs i x = some (xs.set i.toNat x) := if_pos ⟨h0, h⟩
theorem gSet_n {α : Type} {n : Nat} {xs ys : List α} {i : Int} {x : α} (hn : n = xs.length) (h : gSet xs i x = some ys) : n = ys.length := by
 obtain ⟨_, _, rfl⟩ := Ja9 h; rw [List.length_set]; exact hn
def Xr {α : Type} (xs : List α) (l h : Int) : Option (List α) := if 0 ≤ l ∧ l ≤ h ∧ h ≤ xs.length then some ((xs.drop l.toNat).take (h.toNat - l.toNat)) else none
theorem Zv {α : Type} {xs ys : List α} {l h : Int} (e : Xr xs l h = some ys) : 0 ≤ l ∧ l ≤ h ∧ h ≤ xs.length ∧ ys = (xs.drop l.toNat).take (h.toNat - l.toNat) := by
 unfold Xr at e; split at e
 ·cases e; rename_i h; exact ⟨h.1, h.2.1, h.2.2, rfl⟩
 ·cases e
theorem Jcr {α : Type} {xs : List α} {l h : Int} (h0 : 0 ≤ l ∧ l ≤ h ∧ h ≤ xs.length) : Xr xs l h = some ((xs.drop l.toNat).take (h.toNat - l.toNat)) := if_pos h0
theorem Jhu {α : Type} {xs : List α} {h : Int} (h0 : 0 ≤ h ∧ h ≤ xs.length) : Xr xs 0 h = some (xs.take h.toNat) := by rw [Jcr ⟨by omega, h0⟩]; simp
theorem Uh {α : Type} {xs : List α} {l : Int} (h0 : 0 ≤ l ∧ l ≤ xs.length) : Xr xs l xs.length = some (xs.drop l.toNat) := by
 rw [Jcr ⟨h0.1, h0.2, by omega⟩, List.take_of_length_le (by simp)]
def gOct (s : List UInt8) (i : Int) : Option Int := if 0 ≤ i then (s[i.toNat]?).map fun c => (c.toNat : Int) else none
theorem gOct_some {s : List UInt8} {i c : Int} (h : gOct s i = some c) : 0 ≤ i ∧ i < s.length ∧ c = ((s.getD i.toNat 0).toNat : Nat) := by
 unfold gOct at h; split at h
 ·rename_i h0
  rcases Nat.lt_or_ge i.toNat s.length with h' | h'
  ·rw [List.getElem?_eq_getElem h'] at h
   simp only [Option.map_some, Option.some.injEq] at h
   refine ⟨h0, by omega, ?_⟩
   rw [← h, List.getD_eq_getElem?_getD, List.getElem?_eq_getElem h']; rfl
  ·rw [List.getElem?_eq_none h'] at h; cases h
 ·cases h
theorem Ub {s : List UInt8} {k : Nat} (h : k < s.length) : gOct s (k : Int) = some (s[k].toNat : Int) := by
 unfold gOct; rw [if_pos (by omega), Int.toNat_natCast, List.getElem?_eq_getElem h]; rfl
def Xd {α : Type} (by_ : Nat) (xs ys : List α) : Option (List α) := if xs.length + ys.length ≤ 140737488355328 ∧ (xs.length + ys.length) * by_ ≤ 140737488355328 then some (xs ++ ys) else none
theorem Ul {α : Type} {by_ : Nat} {xs ys zs : List α} (h : Xd by_ xs ys = some zs) : zs = xs ++ ys ∧ xs.length + ys.length ≤ 140737488355328 ∧ (xs.length + ys.length) * by_ ≤ 140737488355328 := by
 unfold Xd at h; split at h
 ·cases h; exact ⟨rfl, ‹_›⟩
 ·cases h
theorem X5 {α : Type} {by_ : Nat} {xs ys : List α} (h : xs.length + ys.length ≤ 140737488355328 ∧ (xs.length + ys.length) * by_ ≤ 140737488355328) : Xd by_ xs ys = some (xs ++ ys) := if_pos h
def Qo (s : List UInt8) : List Int := s.map fun c => (c.toNat : Int)
def Wn (xs : List Int) : List UInt8 := xs.map fun x => UInt8.ofNat x.toNat
def gMake {α : Type} (by_ : Nat) (n : Int) (z : α) : Option (List α) := if 0 ≤ n ∧ n ≤ 140737488355328 ∧ by_ * n.toNat ≤ 140737488355328 then some (List.replicate n.toNat z) else none
theorem gMake_some {α : Type} {by_ : Nat} {n : Int} {z : α} {zs : List α} (h : gMake by_ n z = some zs) : 0 ≤ n ∧ n ≤ 140737488355328 ∧ by_ * n.toNat ≤ 140737488355328 ∧ zs = List.replicate n.toNat z := by
 unfold gMake at h; split at h
 ·cases h; rename_i h; exact ⟨h.1, h.2.1, h.2.2, rfl⟩
 ·cases h
theorem gMake_ok {α : Type} {by_ : Nat} {n : Int} {z : α} (h : 0 ≤ n ∧ n ≤ 140737488355328 ∧ by_ * n.toNat ≤ 140737488355328) : gMake by_ n z = some (List.replicate n.toNat z) := if_pos h
def wU8 (x : Int) : Int := x % 256
def wU64 (x : Int) : Int := x % 18446744073709551616
def wI32 (x : Int) : Int := if 2147483648 ≤ x % 4294967296 then x % 4294967296 - 4294967296 else x % 4294967296
def U6 (x : Int) : Int := if 9223372036854775808 ≤ x % 18446744073709551616 then x % 18446744073709551616 - 18446744073709551616 else x % 18446744073709551616
theorem wI64_in {x : Int} (h : -9223372036854775808 ≤ x ∧ x ≤ 9223372036854775807) : U6 x = x := by unfold U6; split <;> omega
theorem wU64_in {x : Int} (h : 0 ≤ x ∧ x ≤ 18446744073709551615) : wU64 x = x := by unfold wU64; omega
def gK (lo hi x : Int) : Option Int := if lo ≤ x ∧ x ≤ hi then some x else none
theorem gK_some {lo hi x y : Int} (h : gK lo hi x = some y) : y = x ∧ lo ≤ x ∧ x ≤ hi := by
 unfold gK at h; split at h
 ·cases h; exact ⟨rfl, ‹_›⟩
 ·cases h
def gShl (x y : Int) : Option Int := if 0 ≤ y ∧ y < 64 then gI (x * 2 ^ y.toNat) else none
theorem gShl_some {x y z : Int} (h : gShl x y = some z) : 0 ≤ y ∧ y < 64 ∧ z = x * 2 ^ y.toNat ∧ -9223372036854775808 ≤ x * 2 ^ y.toNat ∧ x * 2 ^ y.toNat ≤ 9223372036854775807 := by
 unfold gShl at h; split at h
 ·rename_i h0; obtain ⟨h1, h2⟩ := Jgw h; exact ⟨h0.1, h0.2, h1, h2⟩
 ·cases h
def gShr (bits : Nat) (x y : Int) : Option Int := if 0 ≤ y then some (x / 2 ^ min y.toNat bits) else none
def bOr (bits : Nat) (x y : Int) : Int := ((BitVec.ofInt bits x ||| BitVec.ofInt bits y).toNat : Int)
end Go.Md

namespace Go.Md
open Go
end Go.Md

namespace Go.Md
end Go.Md

namespace Go.Md
def Zf {α : Type} (xs : List α) (a : Int) (m : Nat) (ys : List α) : List α := xs.take a.toNat ++ (ys.take m ++ xs.drop (a.toNat + min m ys.length))
theorem Jia {α : Type} {xs ys : List α} {a : Int} {m : Nat} (h : a.toNat + m ≤ xs.length) : (Zf xs a m ys).length = xs.length := by
 unfold Zf
 simp only [List.length_append, List.length_take, List.length_drop]; omega
theorem Jg8 {α : Type} {n : Nat} {xs ts ys : List α} {a q : Int} (hn : n = xs.length) (h : Xr xs a q = some ts) : n = (Zf xs a ts.length ys).length := by
 obtain ⟨h0, h1, h2, rfl⟩ := Zv h
 rw [Jia]
 ·exact hn
 ·rw [List.length_take, List.length_drop]; omega
def gFn {μ : Type} (m : Option μ) : Option μ := m
theorem gFn_some {μ : Type} {m : Option μ} {g : μ} (h : gFn m = some g) : m = some g := h
end Go.Md

namespace Go.Md
end Go.Md

namespace Go.Md
end Go.Md

namespace Go.Md
def gApN {α : Type} (by_ : Nat) (xs ys : List α) : Option (List α) := if ys.length ≠ 0 ∧ xs.length + ys.length ≤ 140739635838976 ∧ (xs.length + ys.length) * by_ ≤ 140739635838976 then some (xs ++ ys) else none
theorem gApN_some {α : Type} {by_ : Nat} {xs ys zs : List α} (h : gApN by_ xs ys = some zs) : zs = xs ++ ys ∧ ys ≠ [] ∧ xs.length + ys.length ≤ 140739635838976 ∧ (xs.length + ys.length) * by_ ≤ 140739635838976 := by
 unfold gApN at h; split at h
 ·rename_i hh; cases h; exact ⟨rfl, fun e => hh.1 (by rw [e]; rfl), hh.2⟩
 ·cases h
theorem gApN_ok {α : Type} {by_ : Nat} {xs ys : List α} (h : ys.length ≠ 0 ∧ xs.length + ys.length ≤ 140739635838976 ∧ (xs.length + ys.length) * by_ ≤ 140739635838976) : gApN by_ xs ys = some (xs ++ ys) := if_pos h
def gByt (s : List UInt8) : Option (List Int) := if s.length ≤ 9223372036854775807 then some (Qo s) else none
theorem gByt_some {s : List UInt8} {r : List Int} (h : gByt s = some r) : r = Qo s ∧ s.length ≤ 9223372036854775807 := by
 unfold gByt at h; split at h
 ·cases h; exact ⟨rfl, by assumption⟩
 ·cases h
theorem gByt_ok {s : List UInt8} (h : s.length ≤ 9223372036854775807) : gByt s = some (Qo s) := if_pos h
end Go.Md

namespace Go.Md
section
variable {κ ν : Type} [DecidableEq κ]
def Jdm (xs : List (κ × ν)) (k : κ) : Option ν := (xs.find? fun p => decide (p.1 = k)).map (·.2)
def mHas (xs : List (κ × ν)) (k : κ) : Bool := xs.any fun p => decide (p.1 = k)
def W0 (xs : List (κ × ν)) (k : κ) (v : ν) : List (κ × ν) := if mHas xs k then xs.map (fun p => if p.1 = k then (k, v) else p) else xs ++ [(k, v)]
end
structure Pick {α : Type} (l : List α) (p : α) (l' : List α) : Prop where
 out : ∃ i, l[i]? = some p ∧ l' = l.eraseIdx i
theorem Pick.len {α : Type} {l l' : List α} {p : α} (h : Pick l p l') : l'.length + 1 = l.length := by
 obtain ⟨i, h1, rfl⟩ := h.out
 have hi : i < l.length := by
  rcases Nat.lt_or_ge i l.length with h | h
  ·exact h
  ·rw [List.getElem?_eq_none h] at h1; cases h1
 rw [List.length_eraseIdx_of_lt hi]; omega
end Go.Md

namespace Go.Md
structure CmpOk {α : Type} (cmp : α → α → Option Int) : Prop where
 tot : ∀ x y, ∃ v, cmp x y = some v
 flip : ∀ x y, (cmp x y).getD 0 < 0 ↔ 0 < (cmp y x).getD 0
 trans : ∀ x y z, (cmp x y).getD 0 ≤ 0 → (cmp y z).getD 0 ≤ 0 → (cmp x z).getD 0 ≤ 0
 anti : ∀ x y, (cmp x y).getD 0 = 0 → x = y
def leC {α : Type} (cmp : α → α → Option Int) (x y : α) : Bool := decide ((cmp x y).getD 0 ≤ 0)
open Classical in
noncomputable def Jcy {α : Type} (l : List α) (cmp : α → α → Option Int) : Option (List α) := if l.length < 4611686018427387904 ∧ CmpOk cmp then some (l.mergeSort (leC cmp)) else none
theorem Jfa {α : Type} {le : α → α → Bool} (anti : ∀ x y, le x y = true → le y x = true → x = y) : ∀ {a b : List α}, a.Perm b → a.Pairwise (fun x y => le x y = true) → b.Pairwise (fun x y => le x y = true) → (∀ x, le x x = true) → a = b
 | [], b, p, _, _, _ => (List.nil_perm.1 p).symm
 | x :: a, [], p, _, _, _ => by have := p.length_eq; simp at this
 | x :: a, y :: b, p, ha, hb, hr => by
  have hxy : x = y := by
   have h1 : x ∈ y :: b := p.mem_iff.1 (by simp)
   have h2 : y ∈ x :: a := p.mem_iff.2 (by simp)
   refine anti x y ?_ ?_
   ·rcases List.mem_cons.1 h2 with h | h
    ·rw [h]; exact hr x
    ·exact (List.pairwise_cons.1 ha).1 y h
   ·rcases List.mem_cons.1 h1 with h | h
    ·rw [h]; exact hr y
    ·exact (List.pairwise_cons.1 hb).1 x h
  subst hxy
  rw [Jfa anti ((List.perm_cons x).1 p) (List.pairwise_cons.1 ha).2 (List.pairwise_cons.1 hb).2 hr]
section
variable {α : Type} {cmp : α → α → Option Int}
theorem CmpOk.refl (c : CmpOk cmp) (x : α) : leC cmp x x = true := by
 have := c.flip x x
 unfold leC; simp; omega
theorem CmpOk.total (c : CmpOk cmp) (x y : α) : (leC cmp x y || leC cmp y x) = true := by
 have := c.flip x y
 have h2 := c.flip y x
 unfold leC; simp; omega
theorem CmpOk.antisymm (c : CmpOk cmp) (x y : α) (h1 : leC cmp x y = true) (h2 : leC cmp y x = true) : x = y := by
 have f1 := c.flip x y
 have f2 := c.flip y x
 unfold leC at h1 h2
 simp at h1 h2
 exact c.anti x y (by omega)
theorem CmpOk.letrans (c : CmpOk cmp) (x y z : α) (h1 : leC cmp x y = true) (h2 : leC cmp y z = true) : leC cmp x z = true := by
 unfold leC at *
 simp at *
 exact c.trans x y z h1 h2
theorem sortF_is (c : CmpOk cmp) {l d : List α} (p : d.Perm l) (h : d.Pairwise fun x y => leC cmp x y = true) : d = l.mergeSort (leC cmp) :=
 Jfa c.antisymm (p.trans (List.mergeSort_perm l _).symm) h (List.pairwise_mergeSort (le := leC cmp) c.letrans c.total l) c.refl
end
def Um {α : Type} (xs : List α) (i : Int) (x : α) : List α := xs.take i.toNat ++ ([x] ++ xs.drop i.toNat)
def gInsN {α : Type} (by_ : Nat) (xs : List α) (i : Int) (x : α) : Option (List α) := if 0 ≤ i ∧ i ≤ xs.length ∧ (xs.length + 1) * by_ ≤ 140737488355328 ∧ xs.length + 1 ≤ 140737488355328 then some (Um xs i x) else none
theorem Jf1 {α : Type} {by_ : Nat} {xs ys : List α} {i : Int} {x : α} (h : gInsN by_ xs i x = some ys) : ys = Um xs i x ∧ 0 ≤ i ∧ i ≤ xs.length ∧ (xs.length + 1) * by_ ≤ 140737488355328 ∧ xs.length + 1 ≤ 140737488355328 := by
 unfold gInsN at h; split at h
 ·cases h; exact ⟨rfl, ‹_›⟩
 ·cases h
theorem gInsN_ok {α : Type} {by_ : Nat} {xs : List α} {i : Int} {x : α} (h : 0 ≤ i ∧ i ≤ xs.length ∧ (xs.length + 1) * by_ ≤ 140737488355328 ∧ xs.length + 1 ≤ 140737488355328) : gInsN by_ xs i x = some (Um xs i x) := if_pos h
end Go.Md

namespace Go.Md
end Go.Md

namespace Go.Md
structure CmpPre {α : Type} (cmp : α → α → Option Int) : Prop where
 tot : ∀ x y, ∃ v, cmp x y = some v
 flip : ∀ x y, (cmp x y).getD 0 < 0 ↔ 0 < (cmp y x).getD 0
 trans : ∀ x y z, (cmp x y).getD 0 ≤ 0 → (cmp y z).getD 0 ≤ 0 → (cmp x z).getD 0 ≤ 0
section
variable {α : Type} {cmp : α → α → Option Int}
end
end Go.Md

namespace Go.Md
structure SortOf {α : Type} (cmp : α → α → Option Int) (l d : List α) : Prop where
 perm : d.Perm l
 sorted : d.Pairwise fun x y => leC cmp x y = true
section
variable {α ρ : Type} {cmp : α → α → Option Int} {l : List α} {k : List α → Option ρ} {r : ρ}
end
end Go.Md

namespace Go.M
open Go.Md
noncomputable section
set_option maxRecDepth 100000
structure Tf where
 Num : Int
 Den : Int
instance : Inhabited Tf := ⟨⟨0, 0⟩⟩
mutual
structure Td where
 kah : Int
 kai : (List UInt8)
 kaj : (List Int)
 kag : (List Tf)
 kaf : (List Ta)
structure Ta where
 Tag : Int
 Value : Td
end
instance : Inhabited Td := ⟨⟨0, [], [], [], []⟩⟩
instance : Inhabited Ta := ⟨⟨0, ⟨0, [], [], [], []⟩⟩⟩
structure Tg where
 Big : Bool
 kal : (List (List Ta))
instance : Inhabited Tg := ⟨⟨false, []⟩⟩
structure Tc where
 From : Int
 To : Int
instance : Inhabited Tc := ⟨⟨0, 0⟩⟩
structure Tb where
 s_ : (List UInt8)
 kab : Bool
 kaa : (List Tc)
 kae : (List (Int × Bool))
 kad : Int
 kac : Nat
 no_ : Int
instance : Inhabited Tb := ⟨⟨[], false, [], [], 0, 0, 0⟩⟩
structure Te where
 kab : Bool
 kak : (List Int)
instance : Inhabited Te := ⟨⟨false, []⟩⟩
def Vd (x y : Tf) : Bool := decide (x.Num = y.Num ∧ x.Den = y.Den)
def Jfy (a0 : (List Int)) (a1 : Int) : Option (Unit) :=
 some ()
def mft52 : Nat → (Option ((List Int) → Int → Option (Unit)))
 | 0 => some Jfy
 | _ => none
def Q6 (a0 : (List Ta)) (a1 : Int) (a2 : (Ta → Int → Option (Int))) (x9 : Int) : Option (Int × Bool) :=
 Qv (decide (x9 < (a0.length : Int))) (Jz (Q9 a0 x9) fun t43 =>
 Jz (a2 t43 a1) fun t46 =>
 some (x9, (decide (t46 = 0)))) (some (x9, false))
def Qq (a0 : (List Ta)) (a1 : Int) (a2 : (Ta → Int → Option (Int))) (next2 : ((Int × Int) → Option (Int × Bool))) (x9_3 : Int) (x10_2 : Int) : Option (Int × Bool) :=
 Qv (decide (x9_3 < x10_2)) (Jz (gI (x9_3 + x10_2)) fun t20 =>
 Jz (gShr 64 (wU64 t20) 1) fun t22 =>
 Jz (Q9 a0 (U6 t22)) fun t27 =>
 Jz (a2 t27 a1) fun t30 =>
 Qv (decide (t30 < 0)) (Jz (gI ((U6 t22) + 1)) fun t33 =>
 next2 (t33, x10_2)) (next2 (x9_3, (U6 t22)))) (Q6 a0 a1 a2 x9_3)
def X0 (a0 : (List Ta)) (a1 : Int) (a2 : (Ta → Int → Option (Int))) : Option (Int × Bool) :=
 Wq (fun next2 s => Qq a0 a1 a2 next2 s.1 s.2) (0, (a0.length : Int))
def Jcq (a0 : Ta) (a1 : Int) : Option (Int) :=
 Qv (decide (a0.Tag < a1)) (some (-1)) (Qv (decide (a1 < a0.Tag)) (some 1) (some 0))
def Jb4 (a0 : (List Ta)) (a1 : Int) : Option (Int × Bool) :=
 Jz (X0 a0 a1 Jcq) fun t8 =>
 some (t8.1, t8.2)
def Vk (a0 : Int) (a1 : Int) (a2 : Int) : Option (Bool) :=
 Qv (decide (a0 < a1)) (some true) (some (decide (a2 < a0)))
def Ug (a0 : Int) (x4 : Bool) : Option (Int) :=
 Qv x4 (some 1) (Qv (decide (a0 = 3)) (some 2) (Qv (decide (a0 = 4)) (Qv (decide (a0 = 4)) (some 4) (Qv (decide (a0 = 5)) (some 8) (some 0))) (Qv (decide (a0 = 9)) (some 4) (Qv (decide (a0 = 5)) (some 8) (some 0)))))
def Zb (a0 : Int) : Option (Int) :=
 Qv (decide (a0 = 1)) (Ug a0 (decide (a0 = 1))) (Qv (decide (a0 = 2)) (Ug a0 (decide (a0 = 2))) (Qv (decide (a0 = 7)) (Ug a0 (decide (a0 = 7))) (Ug a0 (decide (a0 = 13)))))
def Jdq (a0 : Int) : Option (Bool) :=
 Qv (decide (a0 = 1)) (some true) (Qv (decide (a0 = 3)) (some true) (Qv (decide (a0 = 4)) (some true) (some (decide (a0 = 9)))))
def Jds (a0 : Int) : Option (Bool) :=
 Qv (decide (a0 = 2)) (some true) (some (decide (a0 = 7)))
def Vu (a0 : Td) (x8_3 : Bool) : Option (Int) :=
 Qv x8_3 (Qv x8_3 (some 1) (some 0)) (Qv (decide (a0.kah ≠ 13)) (Qv (decide (0 < (a0.kaf.length : Int))) (some 1) (some 0)) (some 0))
def Vv (a0 : Td) (x8_2 : Bool) : Option (Int) :=
 Qv x8_2 (Qv x8_2 (some 1) (some 0)) (Qv (decide (a0.kah ≠ 5)) (Vu a0 (decide (0 < (a0.kag.length : Int)))) (Vu a0 false))
def Vt (a0 : Td) (x8 : Bool) : Option (Int) :=
 Qv x8 (Qv x8 (some 1) (some 0)) (Jz (Jds a0.kah) fun t21 =>
 Qv (!t21) (Vv a0 (decide (a0.kai ≠ []))) (Vv a0 false))
def V3 (a0 : Td) : Option (Int) :=
 Jz (Zb a0.kah) fun t6 =>
 Qv (decide (t6 = 0)) (some 10) (Jz (Jdq a0.kah) fun t11 =>
 Qv (!t11) (Vt a0 (decide (0 < (a0.kaj.length : Int)))) (Vt a0 false))
def Jd0 (a0 : Int) : Option (Int × Int) :=
 Qv (decide (a0 = 1)) (some (0, 255)) (Qv (decide (a0 = 3)) (some (0, 65535)) (Qv (decide (a0 = 9)) (some ((-2147483648), 2147483647)) (some (0, 4294967295))))
def Yu (a0 : Td) (next3 : ((Int) → Option (Int))) (x56_2 : Int) : Option (Int) :=
 Qv (decide (x56_2 < (a0.kai.length : Int))) (Jz (gOct a0.kai x56_2) fun t62 =>
 Qv (decide (t62 = 0)) (some 9) (Jz (gI (x56_2 + 1)) fun t64 =>
 next3 t64)) (some 0)
def Wf (a0 : Td) : Option (Int) :=
 Qv (decide (a0.kah = 2)) (Wq (fun next3 s => Yu a0 next3 s) 0) (some 0)
def Yj (a0 : Td) (next4 : ((Int) → Option (Int))) (x37_2 : Int) : Option (Int) :=
 Qv (decide (x37_2 < (a0.kag.length : Int))) (Jz (Q9 a0.kag x37_2) fun t39 =>
 Jz (Vk t39.Num 0 4294967295) fun t43 =>
 Qv t43 (some 2) (Jz (Vk t39.Den 0 4294967295) fun t47 =>
 Qv t47 (some 2) (Jz (gI (x37_2 + 1)) fun t49 =>
 next4 t49))) (Wf a0)
def V7 (a0 : Td) : Option (Int) :=
 Wq (fun next4 s => Yj a0 next4 s) 0
def Yl (a0 : Td) (t19 : (Int × Int)) (next5 : ((Int) → Option (Int))) (x25_2 : Int) : Option (Int) :=
 Qv (decide (x25_2 < (a0.kaj.length : Int))) (Jz (Q9 a0.kaj x25_2) fun t27 =>
 Jz (Vk t27 t19.1 t19.2) fun t32 =>
 Qv t32 (some 2) (Jz (gI (x25_2 + 1)) fun t33 =>
 next5 t33)) (V7 a0)
def Ut (a0 : Td) : Option (Int) :=
 Jz (V3 a0) fun t12 =>
 Qv (decide (t12 ≠ 0)) (some t12) (Jz (Jd0 a0.kah) fun t19 =>
 Wq (fun next5 s => Yl a0 t19 next5 s) 0)
def V5 (x17_2 : Int) (next1 : ((Int) → Option (Int))) (x7 : Int) : Option (Int) :=
 Qv (decide (x7 ≠ 0)) (some x7) (Jz (gI (x17_2 + 1)) fun t61 =>
 next1 t61)
def Jan (a1 : Int) (self : ((List Ta) × Int) → Option (Int)) (x17_2 : Int) (next1 : ((Int) → Option (Int))) (t20 : Ta) : Option (Int) :=
 Qv (decide (t20.Value.kah ≠ 13)) (Jz (Ut t20.Value) fun t46 =>
 V5 x17_2 next1 t46) (Jz (V3 t20.Value) fun t49 =>
 Qv (decide (t49 = 0)) (Jz (gI (a1 + 1)) fun t56 =>
 Jz (self (t20.Value.kaf, t56)) fun t57 =>
 V5 x17_2 next1 t57) (V5 x17_2 next1 t49))
def Uc (a0 : (List Ta)) (a1 : Int) (self : ((List Ta) × Int) → Option (Int)) (next1 : ((Int) → Option (Int))) (x17_2 : Int) : Option (Int) :=
 Qv (decide (x17_2 < (a0.length : Int))) (Jz (Q9 a0 x17_2) fun t20 =>
 Jz (Vk t20.Tag 0 65535) fun t25 =>
 Qv t25 (some 2) (Qv (decide (0 < x17_2)) (Jz (gI (x17_2 - 1)) fun t34 =>
 Jz (Q9 a0 t34) fun t35 =>
 Qv (decide (t20.Tag ≤ t35.Tag)) (some 5) (Jan a1 self x17_2 next1 t20)) (Jan a1 self x17_2 next1 t20))) (some 0)
def Yy (self : ((List Ta) × Int) → Option (Int)) (a0 : (List Ta)) (a1 : Int) : Option (Int) :=
 Qv (decide (5 < a1)) (some 4) (Qv (decide (200 < (a0.length : Int))) (some 4) (Wq (fun next1 s => Uc a0 a1 self next1 s) 0))
def Jaz (a0 : (List Ta)) (a1 : Int) : Option (Int) :=
 Wq (fun (self : ((List Ta) × Int) → Option (Int)) (s : (List Ta) × Int) => Yy self s.1 s.2) (a0, a1)
def Qe (a0 : Td) : Option (Int) :=
 Qv (decide (a0.kah = 2)) (Jz (gI ((a0.kai.length : Int) + 1)) fun t10 =>
 some t10) (Qv (decide (a0.kah = 7)) (some (a0.kai.length : Int)) (Qv (decide (a0.kah = 5)) (some (a0.kag.length : Int)) (Qv (decide (a0.kah = 13)) (some 1) (some (a0.kaj.length : Int)))))
def Vf (a0 : Td) : Option (Int) :=
 Jz (Qe a0) fun t4 =>
 Jz (Zb a0.kah) fun t7 =>
 Jz (gI (t4 * t7)) fun t8 =>
 some t8
def Jcm (a0 : Int) : Option (Int) :=
 Jz (gRem a0 2) fun t5 =>
 Jz (gI (a0 + t5)) fun t6 =>
 some t6
def Uf (x17_2 : Int) (next1 : ((Int × Int) → Option (Int))) (x1_3 : Int) : Option (Int) :=
 Jz (gI (x17_2 + 1)) fun t42 =>
 next1 (x1_3, t42)
def Vn (a0 : (List Ta)) (self : ((List Ta) × Int) → Option (Int)) (next1 : ((Int × Int) → Option (Int))) (x1_2 : Int) (x17_2 : Int) : Option (Int) :=
 Qv (decide (x17_2 < (a0.length : Int))) (Jz (Q9 a0 x17_2) fun t19 =>
 Qv (decide (t19.Value.kah = 13)) (Jz (self (t19.Value.kaf, x1_2)) fun t30 =>
 Uf x17_2 next1 t30) (Jz (Vf t19.Value) fun t34 =>
 Qv (decide (4 < t34)) (Jz (Jcm x1_2) fun t37 =>
 Jz (Vf t19.Value) fun t40 =>
 Jz (gI (t37 + t40)) fun t41 =>
 Uf x17_2 next1 t41) (Uf x17_2 next1 x1_2))) (some x1_2)
def Zr (self : ((List Ta) × Int) → Option (Int)) (a0 : (List Ta)) (a1 : Int) : Option (Int) :=
 Jz (Jcm a1) fun t8 =>
 Jz (gI (t8 + 2)) fun t9 =>
 Jz (gI (12 * (a0.length : Int))) fun t12 =>
 Jz (gI (t9 + t12)) fun t13 =>
 Jz (gI (t13 + 4)) fun t14 =>
 Wq (fun next1 s => Vn a0 self next1 s.1 s.2) (t14, 0)
def Jdn (a0 : (List Ta)) (a1 : Int) : Option (Int) :=
 Wq (fun (self : ((List Ta) × Int) → Option (Int)) (s : (List Ta) × Int) => Zr self s.1 s.2) (a0, a1)
def Wy (a0 : Tg) (next1 : ((Int × Int) → Option (Int))) (x3_2 : Int) (x9_2 : Int) : Option (Int) :=
 Qv (decide (x9_2 < (a0.kal.length : Int))) (Jz (Q9 a0.kal x9_2) fun t11 =>
 Jz (Jdn t11 x3_2) fun t15 =>
 Jz (gI (x9_2 + 1)) fun t16 =>
 next1 (t15, t16)) (some x3_2)
def Jgl (a0 : Tg) : Option (Int) :=
 Wq (fun next1 s => Wy a0 next1 s.1 s.2) (8, 0)
def Jdt (a0 : Tg) : Option (Int) :=
 Jz (Jgl a0) fun t24 =>
 Qv (decide (65000 < t24)) (some 4) (some 0)
def V9 (a0 : Tg) (next2 : ((Int) → Option (Int))) (x13_2 : Int) : Option (Int) :=
 Qv (decide (x13_2 < (a0.kal.length : Int))) (Jz (Q9 a0.kal x13_2) fun t15 =>
 Jz (Jaz t15 1) fun t18 =>
 Qv (decide (t18 ≠ 0)) (some t18) (Jz (gI (x13_2 + 1)) fun t22 =>
 next2 t22)) (Jdt a0)
def Zw (a0 : Tg) : Option (Int) :=
 Qv (decide (20 < (a0.kal.length : Int))) (some 4) (Wq (fun next2 s => V9 a0 next2 s) 0)
def Uy (a0 : Td) : Option (Int) :=
 Qv (decide (a0.kah ≠ 13)) (Jz (Ut a0) fun t8 =>
 some t8) (Jz (V3 a0) fun t10 =>
 Qv (decide (t10 ≠ 0)) (some t10) (Jz (Jaz a0.kaf 1) fun t16 =>
 some t16))
def Jj (a0 : (List Int)) : Option ((List Int)) :=
 Jz (Xd 8 ([] : List Int) a0) fun l7 =>
 some l7
def W7 (a0 : (List Tf)) : Option ((List Tf)) :=
 Jz (Xd 16 ([] : List Tf) a0) fun l7 =>
 some l7
def Jch (a0 : Tf) : Option (Int) :=
 Jz (Vk a0.Num 0 4294967295) fun t5 =>
 Qv t5 (some 2) (Jz (Vk a0.Den 1 4294967295) fun t9 =>
 Qv t9 (some 2) (some 0))
def Jfe (a0 : Tf) (x5 : Int) : Option (Tf × Int) :=
 Jz (gQuo a0.Num x5) fun t26 =>
 Jz (gQuo a0.Den x5) fun t30 =>
 some ((⟨t26, t30⟩ : Tf), 0)
def Z1 (a0 : Tf) (next2 : ((Int × Int) → Option (Tf × Int))) (x5_3 : Int) (x6_2 : Int) : Option (Tf × Int) :=
 Qv (decide (x6_2 ≠ 0)) (Jz (gRem x5_3 x6_2) fun t22 =>
 next2 (x6_2, t22)) (Jfe a0 x5_3)
def Jdo (a0 : Tf) : Option (Tf × Int) :=
 Jz (Jch a0) fun t8 =>
 Qv (decide (t8 ≠ 0)) (some ((⟨0, 0⟩ : Tf), t8)) (Wq (fun next2 s => Z1 a0 next2 s.1 s.2) (a0.Num, a0.Den))
def Jbi  : Option (Bool) :=
 Jz (Jdo (⟨2, 4⟩ : Tf)) fun t5 =>
 Qv (decide (t5.2 = 0)) (some (Vd t5.1 (⟨1, 2⟩ : Tf))) (some false)
def Jcd (a0 : (List UInt8)) : Option (Bool) :=
 Qv (decide ((a0.length : Int) < 8)) (some false) (Jz (Xr a0 0 4) fun t7 =>
 Qv (decide (t7 = [73, 73, 42, 0])) (some true) (Jz (Xr a0 0 4) fun t11 =>
 some (decide (t11 = [77, 77, 0, 42]))))
def W9 (a1 : (List UInt8)) (a2 : Int) (x9_2 : Int) (x13_2 : Int) (next1 : ((Int × Int) → Option (Int))) (x11 : Int) : Option (Int) :=
 Jz (gShl x9_2 8) fun t23 =>
 Jz (gI (a2 + x11)) fun t27 =>
 Jz (gOct a1 t27) fun t28 =>
 Jz (gK (-9223372036854775808) 9223372036854775807 t28) fun t29 =>
 Jz (gI (x13_2 + 1)) fun t31 =>
 next1 ((U6 (bOr 64 t23 t29)), t31)
def Zp (a0 : Bool) (a1 : (List UInt8)) (a2 : Int) (a3 : Int) (next1 : ((Int × Int) → Option (Int))) (x9_2 : Int) (x13_2 : Int) : Option (Int) :=
 Qv (decide (x13_2 < a3)) (Jz (gI (a3 - 1)) fun t17 =>
 Jz (gI (t17 - x13_2)) fun t19 =>
 Qv a0 (W9 a1 a2 x9_2 x13_2 next1 x13_2) (W9 a1 a2 x9_2 x13_2 next1 t19)) (some x9_2)
def Xx (a0 : Bool) (a1 : (List UInt8)) (a2 : Int) (a3 : Int) : Option (Int) :=
 Wq (fun next1 s => Zp a0 a1 a2 a3 next1 s.1 s.2) (0, 0)
def Jg (a0 : Tb) (a1 : Int) (a2 : Int) : Option (Int) :=
 Jz (Xx a0.kab a0.s_ a1 a2) fun t17 =>
 some t17
def Yp (a0 : Tb) (a1 : Int) (a2 : Int) : Option (Bool) :=
 Qv (decide (8 ≤ a1)) (Qv (decide (a2 ≤ (a0.s_.length : Int))) (Jz (gI ((a0.s_.length : Int) - a2)) fun t26 =>
 some (decide (a1 ≤ t26))) (some false)) (some false)
def J9 (a0 : Tb) (a1 : Int) : Option (Tb) :=
 Qv (decide (a0.no_ = 0)) (some (⟨a0.s_, a0.kab, a0.kaa, a0.kae, a0.kad, a0.kac, a1⟩ : Tb)) (some a0)
def Zm (x25_2 : Int) (next1 : ((Int × (List UInt8) × Bool × Int × Nat × Int × (List Tc) × (List (Int × Bool))) → Option ((List UInt8) × Tb))) (m_11 : (List UInt8)) (m_12 : Bool) (m_13 : Int) (m_14 : Nat) (m_15 : Int) (l_3 : (List Tc)) (mp_3 : (List (Int × Bool))) : Option ((List UInt8) × Tb) :=
 Jz (gI (x25_2 + 1)) fun t34 =>
 next1 (t34, m_11, m_12, m_13, m_14, m_15, l_3, mp_3)
def Xa (t22 : (List UInt8)) (next1 : ((Int × (List UInt8) × Bool × Int × Nat × Int × (List Tc) × (List (Int × Bool))) → Option ((List UInt8) × Tb))) (x25_2 : Int) (m_6 : (List UInt8)) (m_7 : Bool) (m_8 : Int) (m_9 : Nat) (m_10 : Int) (l_2 : (List Tc)) (mp_2 : (List (Int × Bool))) : Option ((List UInt8) × Tb) :=
 Qv (decide (x25_2 < (t22.length : Int))) (Jz (gOct t22 x25_2) fun t30 =>
 Qv (decide (t30 = 0)) (Jz (J9 (⟨m_6, m_7, l_2, mp_2, m_8, m_9, m_10⟩ : Tb) 9) fun t33 =>
 Zm x25_2 next1 t33.s_ t33.kab t33.kad t33.kac t33.no_ t33.kaa t33.kae) (Zm x25_2 next1 m_6 m_7 m_8 m_9 m_10 l_2 mp_2)) (some (t22, (⟨m_6, m_7, l_2, mp_2, m_8, m_9, m_10⟩ : Tb)))
def Wx (a0 : Tb) (a1 : (List UInt8)) : Option ((List UInt8) × Tb) :=
 Qv (decide (a1 = [])) (Jz (J9 a0 1) fun t17 =>
 some ([], t17)) (Jz (gI ((a1.length : Int) - 1)) fun t12 =>
 Jz (gOct a1 t12) fun t13 =>
 Qv (decide (t13 ≠ 0)) (Jz (J9 a0 1) fun t17_2 =>
 some ([], t17_2)) (Jz (gI ((a1.length : Int) - 1)) fun t21 =>
 Jz (Xr a1 0 t21) fun t22 =>
 Wq (fun next1 s => Xa t22 next1 s.1 s.2.1 s.2.2.1 s.2.2.2.1 s.2.2.2.2.1 s.2.2.2.2.2.1 s.2.2.2.2.2.2.1 s.2.2.2.2.2.2.2) (0, a0.s_, a0.kab, a0.kad, a0.kac, a0.no_, a0.kaa, a0.kae)))
def Zi (a1 : Int) (m : (List UInt8)) (m_2 : Bool) (m_3 : Int) (m_4 : Nat) (m_5 : Int) (l_2 : (List Tc)) (mp : (List (Int × Bool))) (m_6 : (List UInt8)) (l_3 : (List Int)) (l_4 : (List Tf)) : Option (Td × Tb) :=
 some ((⟨a1, m_6, l_3, l_4, ([] : List Ta)⟩ : Td), (⟨m, m_2, l_2, mp, m_3, m_4, m_5⟩ : Tb))
def Xt (a0 : Tb) (a1 : Int) (a2 : Int) (x10 : Int) (l : (List Tc)) (next3 : ((Int × (List Tf)) → Option (Td × Tb))) (x107_2 : Int) (l_6 : (List Tf)) : Option (Td × Tb) :=
 Qv (decide (x107_2 < a2)) (Jz (gI (8 * x107_2)) fun t115 =>
 Jz (gI (x10 + t115)) fun t116 =>
 Jz (Jg (⟨a0.s_, a0.kab, l, a0.kae, a0.kad, a0.kac, a0.no_⟩ : Tb) t116 4) fun t117 =>
 Jz (gI (8 * x107_2)) fun t121 =>
 Jz (gI (x10 + t121)) fun t122 =>
 Jz (gI (t122 + 4)) fun t123 =>
 Jz (Jg (⟨a0.s_, a0.kab, l, a0.kae, a0.kad, a0.kac, a0.no_⟩ : Tb) t123 4) fun t124 =>
 Jz (Xd 16 l_6 ([(⟨t117, t124⟩ : Tf)] : List Tf)) fun l127 =>
 Jz (gI (x107_2 + 1)) fun t129 =>
 next3 (t129, l127)) (Zi a1 a0.s_ a0.kab a0.kad a0.kac a0.no_ l a0.kae [] ([] : List Int) l_6)
def Zo (x50_2 : Int) (l_8 : (List Int)) (next4 : ((Int × (List Int)) → Option (Td × Tb))) (x14 : Int) : Option (Td × Tb) :=
 Jz (Xd 8 l_8 ([x14] : List Int)) fun l72 =>
 Jz (gI (x50_2 + 1)) fun t74 =>
 next4 (t74, l72)
def Xu (a0 : Tb) (a1 : Int) (a2 : Int) (x10 : Int) (l : (List Tc)) (next4 : ((Int × (List Int)) → Option (Td × Tb))) (x50_2 : Int) (l_8 : (List Int)) : Option (Td × Tb) :=
 Qv (decide (x50_2 < a2)) (Jz (Zb a1) fun t57 =>
 Jz (gI (x50_2 * t57)) fun t58 =>
 Jz (gI (x10 + t58)) fun t59 =>
 Jz (Zb a1) fun t61 =>
 Jz (Jg (⟨a0.s_, a0.kab, l, a0.kae, a0.kad, a0.kac, a0.no_⟩ : Tb) t59 t61) fun t62 =>
 Qv (decide (a1 = 9)) (Zo x50_2 l_8 next4 (U6 (wI32 t62))) (Zo x50_2 l_8 next4 t62)) (Zi a1 a0.s_ a0.kab a0.kad a0.kac a0.no_ l a0.kae [] l_8 ([] : List Tf))
def Zk (a0 : Tb) (a1 : Int) (a2 : Int) (t18 : Int) (x10 : Int) (l : (List Tc)) : Option (Td × Tb) :=
 Qv (decide (a1 = 2)) (Jz (gI (x10 + t18)) fun t86 =>
 Jz (Xr a0.s_ x10 t86) fun t87 =>
 Jz (Wx (⟨a0.s_, a0.kab, l, a0.kae, a0.kad, a0.kac, a0.no_⟩ : Tb) t87) fun t88 =>
 Zi a1 t88.2.s_ t88.2.kab t88.2.kad t88.2.kac t88.2.no_ t88.2.kaa t88.2.kae t88.1 ([] : List Int) ([] : List Tf)) (Qv (decide (a1 = 7)) (Jz (gI (x10 + t18)) fun t100 =>
 Jz (Xr a0.s_ x10 t100) fun t101 =>
 Zi a1 a0.s_ a0.kab a0.kad a0.kac a0.no_ l a0.kae t101 ([] : List Int) ([] : List Tf)) (Qv (decide (a1 = 5)) (Wq (fun next3 s => Xt a0 a1 a2 x10 l next3 s.1 s.2) (0, ([] : List Tf))) (Wq (fun next4 s => Xu a0 a1 a2 x10 l next4 s.1 s.2) (0, ([] : List Int)))))
def Vo (a0 : Tb) (a1 : Int) (a2 : Int) (a3 : Int) : Option (Td × Tb) :=
 Jz (Zb a1) fun t17 =>
 Jz (gI (a2 * t17)) fun t18 =>
 Qv (decide (4 < t18)) (Jz (Jg a0 a3 4) fun t24 =>
 Jz (Yp a0 t24 t18) fun t28 =>
 Qv (!t28) (Jz (J9 a0 2) fun t31 =>
 some ((⟨0, [], ([] : List Int), ([] : List Tf), ([] : List Ta)⟩ : Td), t31)) (Jz (gI (t24 + t18)) fun t41 =>
 Jz (Xd 16 a0.kaa ([(⟨t24, t41⟩ : Tc)] : List Tc)) fun l44 =>
 Zk a0 a1 a2 t18 t24 l44)) (Zk a0 a1 a2 t18 a3 a0.kaa)
def Zj (t13 : (Int)) (m : Int) (m_2 : (List UInt8)) (l : (List Int)) (l_2 : (List Tf)) (l_3 : (List Ta)) (m_3 : (List UInt8)) (m_4 : Bool) (m_5 : Int) (m_6 : Nat) (m_7 : Int) (l_4 : (List Tc)) (mp : (List (Int × Bool))) : Option (Ta × Tb) :=
 some ((⟨t13, (⟨m, m_2, l, l_2, l_3⟩ : Td)⟩ : Ta), (⟨m_3, m_4, l_4, mp, m_5, m_6, m_7⟩ : Tb))
def Zl (a0 : Tb) (a1 : Int) (self : (Tb × Int × (List Int)) → Option ((List Ta) × Int × Tb)) (t13 : (Int)) (t17 : (Int)) (t21 : (Int)) (l26 : (List Int)) (x51 : Bool) : Option (Ta × Tb) :=
 Qv x51 (Jz (J9 a0 1) fun t59 =>
 Zj t13 t17 [] ([] : List Int) ([] : List Tf) ([] : List Ta) t59.s_ t59.kab t59.kad t59.kac t59.no_ t59.kaa t59.kae) (Qv (decide (t17 = 13)) (Jz (gI (a1 + 8)) fun t67 =>
 Jz (Jg a0 t67 4) fun t68 =>
 Jz (self (a0, t68, l26)) fun t70 =>
 Zj t13 t17 [] ([] : List Int) ([] : List Tf) t70.1 t70.2.2.s_ t70.2.2.kab t70.2.2.kad t70.2.2.kac t70.2.2.no_ t70.2.2.kaa t70.2.2.kae) (Jz (gI (a1 + 8)) fun t42 =>
 Jz (Vo a0 t17 t21 t42) fun t43 =>
 Zj t13 t43.1.kah t43.1.kai t43.1.kaj t43.1.kag t43.1.kaf t43.2.s_ t43.2.kab t43.2.kad t43.2.kac t43.2.no_ t43.2.kaa t43.2.kae))
def Xp (self : (Tb × Int × (List Int)) → Option ((List Ta) × Int × Tb)) (a0 : Tb) (a1 : Int) (a2 : (List Int)) : Option (Ta × Tb) :=
 Jz (Jg a0 a1 2) fun t13 =>
 Jz (gI (a1 + 2)) fun t16 =>
 Jz (Jg a0 t16 2) fun t17 =>
 Jz (gI (a1 + 4)) fun t20 =>
 Jz (Jg a0 t20 4) fun t21 =>
 Jz (Jj a2) fun t23 =>
 Jz (Xd 8 t23 ([t13] : List Int)) fun l26 =>
 Jz (gFn (mft52 a0.kac)) fun g33 =>
 Jz (g33 l26 a1) fun t33 =>
 Jz (Zb t17) fun t47 =>
 Qv (decide (t47 = 0)) (Jz (J9 a0 10) fun t50 =>
 Zj t13 t17 [] ([] : List Int) ([] : List Tf) ([] : List Ta) t50.s_ t50.kab t50.kad t50.kac t50.no_ t50.kaa t50.kae) (Qv (decide (t17 = 13)) (Zl a0 a1 self t13 t17 t21 l26 (decide (t21 ≠ 1))) (Zl a0 a1 self t13 t17 t21 l26 false))
def Uo (x7 : Int) (m_11 : (List UInt8)) (m_12 : Bool) (m_13 : Int) (m_14 : Nat) (m_15 : Int) (l_3 : (List Tc)) (mp_3 : (List (Int × Bool))) (l_4 : (List Ta)) : Option ((List Ta) × Int × Tb) :=
 some (l_4, x7, (⟨m_11, m_12, l_3, mp_3, m_13, m_14, m_15⟩ : Tb))
def Z6 (a2 : (List Int)) (self : (Tb × Int × (List Int)) → Option ((List Ta) × Int × Tb)) (x1_2 : Int) (x7_3 : Int) (x9_2 : Int) (x10_2 : Int) (m_21 : (List UInt8)) (m_22 : Bool) (m_23 : Int) (m_24 : Nat) (m_25 : Int) (l_7 : (List Tc)) (mp_5 : (List (Int × Bool))) (l_8 : (List Ta)) (next4 : ((Int × Int × Int × Int × (List UInt8) × Bool × Int × Nat × Int × (List Tc) × (List (Int × Bool)) × (List Ta)) → Option ((List Ta) × Int × Tb))) : Option ((List Ta) × Int × Tb) :=
 Jz (gI (x1_2 + 2)) fun t135 =>
 Jz (gI (12 * x10_2)) fun t137 =>
 Jz (gI (t135 + t137)) fun t138 =>
 Jz (Xp self (⟨m_21, m_22, l_7, mp_5, m_23, m_24, m_25⟩ : Tb) t138 a2) fun t140 =>
 Jz (Xd 104 l_8 ([t140.1] : List Ta)) fun l142 =>
 Jz (gI (x10_2 + 1)) fun t111 =>
 next4 (x1_2, x7_3, x9_2, t111, t140.2.s_, t140.2.kab, t140.2.kad, t140.2.kac, t140.2.no_, t140.2.kaa, t140.2.kae, l142)
def Xi (a2 : (List Int)) (self : (Tb × Int × (List Int)) → Option ((List Ta) × Int × Tb)) (next4 : ((Int × Int × Int × Int × (List UInt8) × Bool × Int × Nat × Int × (List Tc) × (List (Int × Bool)) × (List Ta)) → Option ((List Ta) × Int × Tb))) (x1_2 : Int) (x7_3 : Int) (x9_2 : Int) (x10_2 : Int) (m_21 : (List UInt8)) (m_22 : Bool) (m_23 : Int) (m_24 : Nat) (m_25 : Int) (l_7 : (List Tc)) (mp_5 : (List (Int × Bool))) (l_8 : (List Ta)) : Option ((List Ta) × Int × Tb) :=
 Qv (decide (x10_2 < x9_2)) (Qv (decide (m_25 = 0)) (Qv (decide (0 < x10_2)) (Jz (gI (x1_2 + 2)) fun t117 =>
 Jz (gI (12 * x10_2)) fun t119 =>
 Jz (gI (t117 + t119)) fun t120 =>
 Jz (Jg (⟨m_21, m_22, l_7, mp_5, m_23, m_24, m_25⟩ : Tb) t120 2) fun t121 =>
 Jz (gI (x10_2 - 1)) fun t124 =>
 Jz (Q9 l_8 t124) fun t125 =>
 Qv (decide (t121 ≤ t125.Tag)) (Jz (J9 (⟨m_21, m_22, l_7, mp_5, m_23, m_24, m_25⟩ : Tb) 5) fun t131 =>
 Uo x7_3 t131.s_ t131.kab t131.kad t131.kac t131.no_ t131.kaa t131.kae l_8) (Z6 a2 self x1_2 x7_3 x9_2 x10_2 m_21 m_22 m_23 m_24 m_25 l_7 mp_5 l_8 next4)) (Z6 a2 self x1_2 x7_3 x9_2 x10_2 m_21 m_22 m_23 m_24 m_25 l_7 mp_5 l_8 next4)) (Uo x7_3 m_21 m_22 m_23 m_24 m_25 l_7 mp_5 l_8)) (Uo x7_3 m_21 m_22 m_23 m_24 m_25 l_7 mp_5 l_8)
def Wb (a1 : Int) (a2 : (List Int)) (self : (Tb × Int × (List Int)) → Option ((List Ta) × Int × Tb)) (t21 : (Int)) (t91 : (Int)) (m_6 : (List UInt8)) (m_7 : Bool) (m_8 : Int) (m_9 : Nat) (m_10 : Int) (l_2 : (List Tc)) (mp_2 : (List (Int × Bool))) : Option ((List Ta) × Int × Tb) :=
 Wq (fun next4 s => Xi a2 self next4 s.1 s.2.1 s.2.2.1 s.2.2.2.1 s.2.2.2.2.1 s.2.2.2.2.2.1 s.2.2.2.2.2.2.1 s.2.2.2.2.2.2.2.1 s.2.2.2.2.2.2.2.2.1 s.2.2.2.2.2.2.2.2.2.1 s.2.2.2.2.2.2.2.2.2.2.1 s.2.2.2.2.2.2.2.2.2.2.2) (a1, t91, t21, 0, m_6, m_7, m_8, m_9, m_10, l_2, mp_2, ([] : List Ta))
def Xk (a1 : Int) (a2 : (List Int)) (self : (Tb × Int × (List Int)) → Option ((List Ta) × Int × Tb)) (t21 : (Int)) (m : (List UInt8)) (m_2 : Bool) (m_3 : Int) (m_4 : Nat) (m_5 : Int) (l : (List Tc)) (mp : (List (Int × Bool))) : Option ((List Ta) × Int × Tb) :=
 Qv (decide (m_5 ≠ 0)) (some (([] : List Ta), 0, (⟨m, m_2, l, mp, m_3, m_4, m_5⟩ : Tb))) (Jz (gI (a1 + 2)) fun t75 =>
 Jz (gI (12 * t21)) fun t77 =>
 Jz (gI (t75 + t77)) fun t78 =>
 Jz (gI (t78 + 4)) fun t79 =>
 Jz (Xd 16 l ([(⟨a1, t79⟩ : Tc)] : List Tc)) fun l82 =>
 Jz (gI (a1 + 2)) fun t87 =>
 Jz (gI (12 * t21)) fun t89 =>
 Jz (gI (t87 + t89)) fun t90 =>
 Jz (Jg (⟨m, m_2, l82, (W0 mp a1 true), m_3, m_4, m_5⟩ : Tb) t90 4) fun t91 =>
 Qv (decide (1 < (a2.length : Int))) (Qv (decide (t91 ≠ 0)) (Jz (J9 (⟨m, m_2, l82, (W0 mp a1 true), m_3, m_4, m_5⟩ : Tb) 1) fun t99 =>
 Wb a1 a2 self t21 t91 t99.s_ t99.kab t99.kad t99.kac t99.no_ t99.kaa t99.kae) (Wb a1 a2 self t21 t91 m m_2 m_3 m_4 m_5 l82 (W0 mp a1 true))) (Wb a1 a2 self t21 t91 m m_2 m_3 m_4 m_5 l82 (W0 mp a1 true)))
def J1 (self : (Tb × Int × (List Int)) → Option ((List Ta) × Int × Tb)) (a0 : Tb) (a1 : Int) (a2 : (List Int)) : Option ((List Ta) × Int × Tb) :=
 Jz (Yp a0 a1 2) fun t15 =>
 Qv (!t15) (Jz (J9 a0 2) fun t18 =>
 some (([] : List Ta), 0, t18)) (Jz (Jg a0 a1 2) fun t21 =>
 Qv ((Jdm a0.kae a1).getD false) (Jz (J9 a0 13) fun t30 =>
 Xk a1 a2 self t21 t30.s_ t30.kab t30.kad t30.kac t30.no_ t30.kaa t30.kae) (Qv (decide (20 < a0.kad)) (Jz (J9 a0 4) fun t46 =>
 Xk a1 a2 self t21 t46.s_ t46.kab t46.kad t46.kac t46.no_ t46.kaa t46.kae) (Qv (decide (5 < (a2.length : Int))) (Jz (J9 a0 4) fun t46_2 =>
 Xk a1 a2 self t21 t46_2.s_ t46_2.kab t46_2.kad t46_2.kac t46_2.no_ t46_2.kaa t46_2.kae) (Qv (decide (200 < t21)) (Jz (J9 a0 4) fun t46_3 =>
 Xk a1 a2 self t21 t46_3.s_ t46_3.kab t46_3.kad t46_3.kac t46_3.no_ t46_3.kaa t46_3.kae) (Jz (gI (12 * t21)) fun t51 =>
 Jz (gI (2 + t51)) fun t52 =>
 Jz (gI (t52 + 4)) fun t53 =>
 Jz (Yp a0 a1 t53) fun t54 =>
 Qv (!t54) (Jz (J9 a0 2) fun t57 =>
 Xk a1 a2 self t21 t57.s_ t57.kab t57.kad t57.kac t57.no_ t57.kaa t57.kae) (Xk a1 a2 self t21 a0.s_ a0.kab a0.kad a0.kac a0.no_ a0.kaa a0.kae))))))
def Z5 (a0 : Tb) (a1 : Int) (a2 : (List Int)) : Option ((List Ta) × Int × Tb) :=
 Wq (fun (self : (Tb × Int × (List Int)) → Option ((List Ta) × Int × Tb)) (s : Tb × Int × (List Int)) => J1 self s.1 s.2.1 s.2.2) (a0, a1, a2)
def Yz (a0 : (List Int)) (next1 : ((Int) → Option (Int))) (x8_2 : Int) : Option (Int) :=
 Qv (decide (x8_2 < (a0.length : Int))) (Jz (Q9 a0 x8_2) fun t10 =>
 Qv (decide (t10 ≠ 0)) (some t10) (Jz (gI (x8_2 + 1)) fun t16 =>
 next1 t16)) (some 0)
def Jcb (a0 : (List Int)) : Option (Int) :=
 Wq (fun next1 s => Yz a0 next1 s) 0
def Jbk (a0 : Int) : Option (Bool) :=
 some (decide (a0 ≠ a0))
def cmp_Compare_int (a0 : Int) (a1 : Int) : Option (Int) :=
 Jz (Jbk a0) fun t8 =>
 Jz (Jbk a1) fun t10 =>
 Qv t8 (Qv t10 (some 0) (some (-1))) (Qv t10 (some 1) (Qv (decide (a0 < a1)) (some (-1)) (Qv (decide (a1 < a0)) (some 1) (some 0))))
def J8 (a0 : Tc) (a1 : Tc) : Option (Int) :=
 Jz (cmp_Compare_int a0.From a1.From) fun t9 =>
 Jz (cmp_Compare_int a0.To a1.To) fun t14 =>
 Jz (Jcb ([t9, t14] : List Int)) fun t16 =>
 some t16
def Z3 (a0 : (List Tc)) (next1 : ((Int) → Option (Bool))) (x3_2 : Int) : Option (Bool) :=
 Qv (decide (x3_2 < (a0.length : Int))) (Jz (Q9 a0 x3_2) fun t12 =>
 Jz (gI (x3_2 - 1)) fun t17 =>
 Jz (Q9 a0 t17) fun t18 =>
 Qv (decide (t12.From < t18.To)) (some true) (Jz (gI (x3_2 + 1)) fun t9 =>
 next1 t9)) (some false)
def Uz (a0 : (List Tc)) : Option (Bool) :=
 Wq (fun next1 s => Z3 a0 next1 s) 1
def Y4 (t22 : Int) (l_2 : (List (List Ta))) (t72 : ((List Tc))) (m_7 : Int) : Option (Tg × (List Tc) × Int) :=
 Qv (decide (m_7 ≠ 0)) (some ((⟨false, ([] : List (List Ta))⟩ : Tg), ([] : List Tc), m_7)) (some ((⟨(decide (t22 = 77)), l_2⟩ : Tg), t72, 0))
def Yt (t22 : Int) (l_2 : (List (List Ta))) (t72 : ((List Tc))) (m_6 : Int) : Option (Tg × (List Tc) × Int) :=
 Qv (decide (m_6 = 0)) (Jz (Zw (⟨(decide (t22 = 77)), l_2⟩ : Tg)) fun t95 =>
 Y4 t22 l_2 t72 t95) (Y4 t22 l_2 t72 m_6)
def Yx (t22 : Int) (m : (List UInt8)) (m_2 : Bool) (m_3 : Int) (m_4 : Nat) (m_5 : Int) (l : (List Tc)) (l_2 : (List (List Ta))) (mp : (List (Int × Bool))) : Option (Tg × (List Tc) × Int) :=
 Jz (Jcy l J8) fun t72 =>
 Qv (decide (m_5 = 0)) (Jz (Uz t72) fun t83 =>
 Qv t83 (Yt t22 l_2 t72 6) (Yt t22 l_2 t72 m_5)) (Yt t22 l_2 t72 m_5)
def Wz (t22 : Int) (next4 : ((Int × (List UInt8) × Bool × Int × Nat × Int × (List Tc) × (List (List Ta)) × (List (Int × Bool))) → Option (Tg × (List Tc) × Int))) (x9_2 : Int) (m_13 : (List UInt8)) (m_14 : Bool) (m_15 : Int) (m_16 : Nat) (m_17 : Int) (l_5 : (List Tc)) (l_6 : (List (List Ta))) (mp_3 : (List (Int × Bool))) : Option (Tg × (List Tc) × Int) :=
 Qv (decide (x9_2 ≠ 0)) (Qv (decide (m_17 = 0)) (Jz (gI (m_15 + 1)) fun t48 =>
 Jz (Z5 (⟨m_13, m_14, l_5, mp_3, t48, m_16, m_17⟩ : Tb) x9_2 ([(l_6.length : Int)] : List Int)) fun t58 =>
 Jz (Xd 24 l_6 ([t58.1] : List (List Ta))) fun l65 =>
 next4 (t58.2.1, t58.2.2.s_, t58.2.2.kab, t58.2.2.kad, t58.2.2.kac, t58.2.2.no_, t58.2.2.kaa, l65, t58.2.2.kae)) (Yx t22 m_13 m_14 m_15 m_16 m_17 l_5 l_6 mp_3)) (Yx t22 m_13 m_14 m_15 m_16 m_17 l_5 l_6 mp_3)
def Wi (a0 : (List UInt8)) (a1 : Nat) : Option (Tg × (List Tc) × Int) :=
 Qv (decide (65000 < (a0.length : Int))) (some ((⟨false, ([] : List (List Ta))⟩ : Tg), ([] : List Tc), 4)) (Jz (Jcd a0) fun t17 =>
 Qv (!t17) (some ((⟨false, ([] : List (List Ta))⟩ : Tg), ([] : List Tc), 8)) (Jz (gOct a0 0) fun t22 =>
 Jz (Jg (⟨a0, (decide (t22 = 77)), ([] : (List Tc)), ([] : (List (Int × Bool))), 0, a1, 0⟩ : Tb) 4 4) fun t34 =>
 Wq (fun next4 s => Wz t22 next4 s.1 s.2.1 s.2.2.1 s.2.2.2.1 s.2.2.2.2.1 s.2.2.2.2.2.1 s.2.2.2.2.2.2.1 s.2.2.2.2.2.2.2.1 s.2.2.2.2.2.2.2.2) (t34, a0, (decide (t22 = 77)), 0, a1, 0, ([] : List Tc), ([] : List (List Ta)), ([] : (List (Int × Bool))))))
def Jax (a0 : (List UInt8)) : Option (Tg × Int) :=
 Jz (Wi a0 0) fun t9 =>
 some (t9.1, t9.2.2)
def Zu : List Ta → List Int → Option (Option (List Nat))
 | _, [] => some (some [])
 | l, t :: ts => Jz (Jb4 l t) fun p => Qv (!p.2) (some none) (Jz (Q9 l p.1) fun e => Qv (decide (e.Value.kah ≠ 13)) (some none) (Jz (Zu e.Value.kaf ts) fun r => some (r.map (p.1.toNat :: ·))))
def Jbb (ls : List (List Ta)) (path : List Int) : Option (Option (List Nat)) :=
 Qv (decide ((path.length : Int) < 2)) (some none) (Jz (Q9 path 0) fun p0 => Jz (gI ((ls.length : Int) - 1)) fun m => Jz (Vk p0 0 m) fun o => Qv o (some none) (Jz (Q9 ls p0) fun l => Jz (gI ((path.length : Int) - 1)) fun q => Jz (Xr path 1 q) fun ts => Jz (Zu l ts) fun r => some (r.map (p0.toNat :: ·))))
def Jgj (e : Ta) (l : List Ta) : Ta := ⟨e.Tag, ⟨e.Value.kah, e.Value.kai, e.Value.kaj, e.Value.kag, l⟩⟩
def V8 : List Nat → List Ta → List Ta
 | [], l => l
 | n :: ks, l => match l[n]? with
  | some e => V8 ks e.Value.kaf
  | none => []
def putL : List Nat → List Ta → List Ta → List Ta
 | [], _, l' => l'
 | n :: ks, l, l' => match l[n]? with
  | some e => l.set n (Jgj e (putL ks e.Value.kaf l'))
  | none => l
def getF : List Nat → List (List Ta) → List Ta
 | [], _ => []
 | i :: ks, ls => match ls[i]? with
  | some l => V8 ks l
  | none => []
def putF : List Nat → List (List Ta) → List Ta → List (List Ta)
 | [], ls, _ => ls
 | i :: ks, ls, l' => match ls[i]? with
  | some l => ls.set i (putL ks l l')
  | none => ls
def fits : Nat → List Ta → Prop
 | 0, _ => False
 | d + 1, xs => xs.length ≤ 1000000 ∧ ∀ x ∈ xs, x.Value.kaj.length ≤ 2000000 ∧ x.Value.kag.length ≤ 2000000 ∧ fits d x.Value.kaf
def fitV (d : Nat) (x : Td) : Prop := x.kaj.length ≤ 2000000 ∧ x.kag.length ≤ 2000000 ∧ fits d x.kaf
def fitF (d : Nat) (f : Tg) : Prop := f.kal.length ≤ 1000000 ∧ ∀ l ∈ f.kal, fits d l
def noF : Tg := ⟨false, []⟩
def noV : Td := ⟨0, [], [], [], []⟩
def Jeq (a0 : Tg) (a1 : (List Int)) : Option (Td × Int) :=
 Jz (Zw a0) fun t => Qv (decide (t ≠ 0)) (some (noV, t)) (Jz (Jbb a0.kal a1) fun r => match r with
  | none => some (noV, 7)
  | some ks => Jz (gI ((a1.length : Int) - 1)) fun q => Jz (Q9 a1 q) fun t => Jz (Jb4 (getF ks a0.kal) t) fun p => Qv (!p.2) (some (noV, 7)) (Jz (Q9 (getF ks a0.kal) p.1) fun e => open Classical in if fitV 8 e.Value then some (e.Value, 0) else none))
def Zn (a0 : (List Int)) (a1 : (List Int)) (next1 : ((Int) → Option (Bool))) (x13_2 : Int) : Option (Bool) :=
 Qv (decide (x13_2 < (a0.length : Int))) (Jz (Q9 a0 x13_2) fun t18 =>
 Jz (Q9 a1 x13_2) fun t22 =>
 Qv (decide (t18 ≠ t22)) (some false) (Jz (gI (x13_2 + 1)) fun t25 =>
 next1 t25)) (some true)
def Vp (a0 : (List Int)) (a1 : (List Int)) : Option (Bool) :=
 Qv (decide ((a0.length : Int) ≠ (a1.length : Int))) (some false) (Wq (fun next1 s => Zn a0 a1 next1 s) 0)
def Jct (q0 : (List Int)) (q1 : Int) (a0 : (List Int)) (a1 : Int) : Option (Int) :=
 Jz (Vp a0 q0) fun t8 =>
 Qv t8 (some a1) (some q1)
def Wl (a1 : Int) (x14_2 : Int) (l_2 : (List Int)) (next1 : ((Int × (List Int)) → Option ((List Int)))) (x9 : Int) : Option ((List Int)) :=
 Jz (gI (8 * x14_2)) fun t27 =>
 Jz (gShr 64 a1 t27) fun t28 =>
 Jz (Q9 l_2 x9) fun t30 =>
 Jz (gSet l_2 x9 (wU8 t28)) fun l0 =>
 Jz (gI (x14_2 + 1)) fun t31 =>
 next1 (t31, l0)
def X9 (a0 : Bool) (a1 : Int) (a2 : Int) (t11 : (List Int)) (next1 : ((Int × (List Int)) → Option ((List Int)))) (x14_2 : Int) (l_2 : (List Int)) : Option ((List Int)) :=
 Qv (decide (x14_2 < (t11.length : Int))) (Qv a0 (Jz (gI (a2 - 1)) fun t20 =>
 Jz (gI (t20 - x14_2)) fun t22 =>
 Wl a1 x14_2 l_2 next1 t22) (Wl a1 x14_2 l_2 next1 x14_2)) (some l_2)
def Jh (a0 : Bool) (a1 : Int) (a2 : Int) : Option ((List Int)) :=
 Jz (gMake 1 a2 0) fun t11 =>
 Wq (fun next1 s => X9 a0 a1 a2 t11 next1 s.1 s.2) (0, t11)
def Vj (a0 : Bool) (a1 : Td) (next2 : ((Int × (List Int)) → Option ((List Int)))) (x43_2 : Int) (l_3 : (List Int)) : Option ((List Int)) :=
 Qv (decide (x43_2 < (a1.kag.length : Int))) (Jz (Q9 a1.kag x43_2) fun t45 =>
 Jz (Jh a0 t45.Num 4) fun t51 =>
 Jz (Xd 1 l_3 t51) fun l52 =>
 Jz (Jh a0 t45.Den 4) fun t57 =>
 Jz (Xd 1 l52 t57) fun l58 =>
 Jz (gI (x43_2 + 1)) fun t59 =>
 next2 (t59, l58)) (some l_3)
def Jaa (a0 : Bool) (a1 : Td) (l : (List Int)) : Option ((List Int)) :=
 Wq (fun next2 s => Vj a0 a1 next2 s.1 s.2) (0, l)
def Vm (a0 : Bool) (a1 : Td) (next3 : ((Int × (List Int)) → Option ((List Int)))) (x27_2 : Int) (l_5 : (List Int)) : Option ((List Int)) :=
 Qv (decide (x27_2 < (a1.kaj.length : Int))) (Jz (Q9 a1.kaj x27_2) fun t29 =>
 Jz (Zb a1.kah) fun t36 =>
 Jz (Jh a0 t29 t36) fun t37 =>
 Jz (Xd 1 l_5 t37) fun l38 =>
 Jz (gI (x27_2 + 1)) fun t39 =>
 next3 (t39, l38)) (Jaa a0 a1 l_5)
def Yr (a0 : Bool) (a1 : Td) : Option ((List Int)) :=
 Qv (decide (a1.kah = 2)) (Jz (gByt a1.kai) fun t16 =>
 Jz (Xd 1 t16 ([0] : List Int)) fun l18 =>
 some l18) (Qv (decide (a1.kah = 7)) (Jz (gByt a1.kai) fun t23 =>
 some t23) (Wq (fun next3 s => Vm a0 a1 next3 s.1 s.2) (0, ([] : List Int))))
def Js (a0 : Te) (a1 : Int) (a2 : Int) : Option (Te) :=
 Jz (Xr a0.kak a1 a0.kak.length) fun t11 =>
 Jz (Jh a0.kab a2 4) fun t17 =>
 some (⟨a0.kab, (Zf a0.kak a1 t11.length t17)⟩ : Te)
def Zh (a0 : Te) (l : (List Int)) : Option (Int × Te) :=
 some ((l.length : Int), (⟨a0.kab, l⟩ : Te))
def Q0 (a0 : Te) : Option (Int × Te) :=
 Jz (gRem (a0.kak.length : Int) 2) fun t8 =>
 Qv (decide (t8 ≠ 0)) (Jz (Xd 1 a0.kak ([0] : List Int)) fun l16 =>
 Zh a0 l16) (Zh a0 a0.kak)
def Y5 (t13 : (Int)) (m : Int) (m_2 : (List UInt8)) (m_3 : Bool) (m_4 : Int) (m_5 : Nat) (m_6 : Int) (l : (List Tc)) (mp : (List (Int × Bool))) (m_7 : Int) (m_8 : (List UInt8)) (l_2 : (List Int)) (l_3 : (List Tf)) (l_4 : (List Ta)) : Option (Ta × Int × Tb) :=
 some ((⟨t13, (⟨m_7, m_8, l_2, l_3, l_4⟩ : Td)⟩ : Ta), m, (⟨m_2, m_3, l, mp, m_4, m_5, m_6⟩ : Tb))
def Y6 (q0 : (List Int)) (a0 : Tb) (a1 : Int) (self : ((List Int) × Int × Tb × Int × (List Int)) → Option ((List Ta) × Int × Int × Tb)) (t13 : (Int)) (t17 : (Int)) (t21 : (Int)) (l26 : (List Int)) (t33 : (Int)) (x51 : Bool) : Option (Ta × Int × Tb) :=
 Qv x51 (Jz (J9 a0 1) fun t59 =>
 Y5 t13 t33 t59.s_ t59.kab t59.kad t59.kac t59.no_ t59.kaa t59.kae t17 [] ([] : List Int) ([] : List Tf) ([] : List Ta)) (Qv (decide (t17 = 13)) (Jz (gI (a1 + 8)) fun t67 =>
 Jz (Jg a0 t67 4) fun t68 =>
 Jz (self (q0, t33, a0, t68, l26)) fun t70 =>
 Y5 t13 t70.2.2.1 t70.2.2.2.s_ t70.2.2.2.kab t70.2.2.2.kad t70.2.2.2.kac t70.2.2.2.no_ t70.2.2.2.kaa t70.2.2.2.kae t17 [] ([] : List Int) ([] : List Tf) t70.1) (Jz (gI (a1 + 8)) fun t42 =>
 Jz (Vo a0 t17 t21 t42) fun t43 =>
 Y5 t13 t33 t43.2.s_ t43.2.kab t43.2.kad t43.2.kac t43.2.no_ t43.2.kaa t43.2.kae t43.1.kah t43.1.kai t43.1.kaj t43.1.kag t43.1.kaf))
def Xc (self : ((List Int) × Int × Tb × Int × (List Int)) → Option ((List Ta) × Int × Int × Tb)) (q0 : (List Int)) (q1 : Int) (a0 : Tb) (a1 : Int) (a2 : (List Int)) : Option (Ta × Int × Tb) :=
 Jz (Jg a0 a1 2) fun t13 =>
 Jz (gI (a1 + 2)) fun t16 =>
 Jz (Jg a0 t16 2) fun t17 =>
 Jz (gI (a1 + 4)) fun t20 =>
 Jz (Jg a0 t20 4) fun t21 =>
 Jz (Jj a2) fun t23 =>
 Jz (Xd 8 t23 ([t13] : List Int)) fun l26 =>
 Jz (Jct q0 q1 l26 a1) fun t33 =>
 Jz (Zb t17) fun t47 =>
 Qv (decide (t47 = 0)) (Jz (J9 a0 10) fun t50 =>
 Y5 t13 t33 t50.s_ t50.kab t50.kad t50.kac t50.no_ t50.kaa t50.kae t17 [] ([] : List Int) ([] : List Tf) ([] : List Ta)) (Qv (decide (t17 = 13)) (Y6 q0 a0 a1 self t13 t17 t21 l26 t33 (decide (t21 ≠ 1))) (Y6 q0 a0 a1 self t13 t17 t21 l26 t33 false))
def W5 (x7 : Int) (m_11 : Int) (m_12 : (List UInt8)) (m_13 : Bool) (m_14 : Int) (m_15 : Nat) (m_16 : Int) (l_3 : (List Tc)) (mp_3 : (List (Int × Bool))) (l_4 : (List Ta)) : Option ((List Ta) × Int × Int × Tb) :=
 some (l_4, x7, m_11, (⟨m_12, m_13, l_3, mp_3, m_14, m_15, m_16⟩ : Tb))
def Zy (q0 : (List Int)) (a2 : (List Int)) (self : ((List Int) × Int × Tb × Int × (List Int)) → Option ((List Ta) × Int × Int × Tb)) (x1_2 : Int) (x7_3 : Int) (x9_2 : Int) (x10_2 : Int) (m_23 : Int) (m_24 : (List UInt8)) (m_25 : Bool) (m_26 : Int) (m_27 : Nat) (m_28 : Int) (l_7 : (List Tc)) (mp_5 : (List (Int × Bool))) (l_8 : (List Ta)) (next4 : ((Int × Int × Int × Int × Int × (List UInt8) × Bool × Int × Nat × Int × (List Tc) × (List (Int × Bool)) × (List Ta)) → Option ((List Ta) × Int × Int × Tb))) : Option ((List Ta) × Int × Int × Tb) :=
 Jz (gI (x1_2 + 2)) fun t135 =>
 Jz (gI (12 * x10_2)) fun t137 =>
 Jz (gI (t135 + t137)) fun t138 =>
 Jz (Xc self q0 m_23 (⟨m_24, m_25, l_7, mp_5, m_26, m_27, m_28⟩ : Tb) t138 a2) fun t140 =>
 Jz (Xd 104 l_8 ([t140.1] : List Ta)) fun l142 =>
 Jz (gI (x10_2 + 1)) fun t111 =>
 next4 (x1_2, x7_3, x9_2, t111, t140.2.1, t140.2.2.s_, t140.2.2.kab, t140.2.2.kad, t140.2.2.kac, t140.2.2.no_, t140.2.2.kaa, t140.2.2.kae, l142)
def Q7 (q0 : (List Int)) (a2 : (List Int)) (self : ((List Int) × Int × Tb × Int × (List Int)) → Option ((List Ta) × Int × Int × Tb)) (next4 : ((Int × Int × Int × Int × Int × (List UInt8) × Bool × Int × Nat × Int × (List Tc) × (List (Int × Bool)) × (List Ta)) → Option ((List Ta) × Int × Int × Tb))) (x1_2 : Int) (x7_3 : Int) (x9_2 : Int) (x10_2 : Int) (m_23 : Int) (m_24 : (List UInt8)) (m_25 : Bool) (m_26 : Int) (m_27 : Nat) (m_28 : Int) (l_7 : (List Tc)) (mp_5 : (List (Int × Bool))) (l_8 : (List Ta)) : Option ((List Ta) × Int × Int × Tb) :=
 Qv (decide (x10_2 < x9_2)) (Qv (decide (m_28 = 0)) (Qv (decide (0 < x10_2)) (Jz (gI (x1_2 + 2)) fun t117 =>
 Jz (gI (12 * x10_2)) fun t119 =>
 Jz (gI (t117 + t119)) fun t120 =>
 Jz (Jg (⟨m_24, m_25, l_7, mp_5, m_26, m_27, m_28⟩ : Tb) t120 2) fun t121 =>
 Jz (gI (x10_2 - 1)) fun t124 =>
 Jz (Q9 l_8 t124) fun t125 =>
 Qv (decide (t121 ≤ t125.Tag)) (Jz (J9 (⟨m_24, m_25, l_7, mp_5, m_26, m_27, m_28⟩ : Tb) 5) fun t131 =>
 W5 x7_3 m_23 t131.s_ t131.kab t131.kad t131.kac t131.no_ t131.kaa t131.kae l_8) (Zy q0 a2 self x1_2 x7_3 x9_2 x10_2 m_23 m_24 m_25 m_26 m_27 m_28 l_7 mp_5 l_8 next4)) (Zy q0 a2 self x1_2 x7_3 x9_2 x10_2 m_23 m_24 m_25 m_26 m_27 m_28 l_7 mp_5 l_8 next4)) (W5 x7_3 m_23 m_24 m_25 m_26 m_27 m_28 l_7 mp_5 l_8)) (W5 x7_3 m_23 m_24 m_25 m_26 m_27 m_28 l_7 mp_5 l_8)
def Vy (q0 : (List Int)) (q1 : Int) (a1 : Int) (a2 : (List Int)) (self : ((List Int) × Int × Tb × Int × (List Int)) → Option ((List Ta) × Int × Int × Tb)) (t21 : (Int)) (t91 : (Int)) (m_6 : (List UInt8)) (m_7 : Bool) (m_8 : Int) (m_9 : Nat) (m_10 : Int) (l_2 : (List Tc)) (mp_2 : (List (Int × Bool))) : Option ((List Ta) × Int × Int × Tb) :=
 Wq (fun next4 s => Q7 q0 a2 self next4 s.1 s.2.1 s.2.2.1 s.2.2.2.1 s.2.2.2.2.1 s.2.2.2.2.2.1 s.2.2.2.2.2.2.1 s.2.2.2.2.2.2.2.1 s.2.2.2.2.2.2.2.2.1 s.2.2.2.2.2.2.2.2.2.1 s.2.2.2.2.2.2.2.2.2.2.1 s.2.2.2.2.2.2.2.2.2.2.2.1 s.2.2.2.2.2.2.2.2.2.2.2.2) (a1, t91, t21, 0, q1, m_6, m_7, m_8, m_9, m_10, l_2, mp_2, ([] : List Ta))
def Q8 (q0 : (List Int)) (q1 : Int) (a1 : Int) (a2 : (List Int)) (self : ((List Int) × Int × Tb × Int × (List Int)) → Option ((List Ta) × Int × Int × Tb)) (t21 : (Int)) (m : (List UInt8)) (m_2 : Bool) (m_3 : Int) (m_4 : Nat) (m_5 : Int) (l : (List Tc)) (mp : (List (Int × Bool))) : Option ((List Ta) × Int × Int × Tb) :=
 Qv (decide (m_5 ≠ 0)) (some (([] : List Ta), 0, q1, (⟨m, m_2, l, mp, m_3, m_4, m_5⟩ : Tb))) (Jz (gI (a1 + 2)) fun t75 =>
 Jz (gI (12 * t21)) fun t77 =>
 Jz (gI (t75 + t77)) fun t78 =>
 Jz (gI (t78 + 4)) fun t79 =>
 Jz (Xd 16 l ([(⟨a1, t79⟩ : Tc)] : List Tc)) fun l82 =>
 Jz (gI (a1 + 2)) fun t87 =>
 Jz (gI (12 * t21)) fun t89 =>
 Jz (gI (t87 + t89)) fun t90 =>
 Jz (Jg (⟨m, m_2, l82, (W0 mp a1 true), m_3, m_4, m_5⟩ : Tb) t90 4) fun t91 =>
 Qv (decide (1 < (a2.length : Int))) (Qv (decide (t91 ≠ 0)) (Jz (J9 (⟨m, m_2, l82, (W0 mp a1 true), m_3, m_4, m_5⟩ : Tb) 1) fun t99 =>
 Vy q0 q1 a1 a2 self t21 t91 t99.s_ t99.kab t99.kad t99.kac t99.no_ t99.kaa t99.kae) (Vy q0 q1 a1 a2 self t21 t91 m m_2 m_3 m_4 m_5 l82 (W0 mp a1 true))) (Vy q0 q1 a1 a2 self t21 t91 m m_2 m_3 m_4 m_5 l82 (W0 mp a1 true)))
def Qh (self : ((List Int) × Int × Tb × Int × (List Int)) → Option ((List Ta) × Int × Int × Tb)) (q0 : (List Int)) (q1 : Int) (a0 : Tb) (a1 : Int) (a2 : (List Int)) : Option ((List Ta) × Int × Int × Tb) :=
 Jz (Yp a0 a1 2) fun t15 =>
 Qv (!t15) (Jz (J9 a0 2) fun t18 =>
 some (([] : List Ta), 0, q1, t18)) (Jz (Jg a0 a1 2) fun t21 =>
 Qv ((Jdm a0.kae a1).getD false) (Jz (J9 a0 13) fun t30 =>
 Q8 q0 q1 a1 a2 self t21 t30.s_ t30.kab t30.kad t30.kac t30.no_ t30.kaa t30.kae) (Qv (decide (20 < a0.kad)) (Jz (J9 a0 4) fun t46 =>
 Q8 q0 q1 a1 a2 self t21 t46.s_ t46.kab t46.kad t46.kac t46.no_ t46.kaa t46.kae) (Qv (decide (5 < (a2.length : Int))) (Jz (J9 a0 4) fun t46_2 =>
 Q8 q0 q1 a1 a2 self t21 t46_2.s_ t46_2.kab t46_2.kad t46_2.kac t46_2.no_ t46_2.kaa t46_2.kae) (Qv (decide (200 < t21)) (Jz (J9 a0 4) fun t46_3 =>
 Q8 q0 q1 a1 a2 self t21 t46_3.s_ t46_3.kab t46_3.kad t46_3.kac t46_3.no_ t46_3.kaa t46_3.kae) (Jz (gI (12 * t21)) fun t51 =>
 Jz (gI (2 + t51)) fun t52 =>
 Jz (gI (t52 + 4)) fun t53 =>
 Jz (Yp a0 a1 t53) fun t54 =>
 Qv (!t54) (Jz (J9 a0 2) fun t57 =>
 Q8 q0 q1 a1 a2 self t21 t57.s_ t57.kab t57.kad t57.kac t57.no_ t57.kaa t57.kae) (Q8 q0 q1 a1 a2 self t21 a0.s_ a0.kab a0.kad a0.kac a0.no_ a0.kaa a0.kae))))))
def Jal (q0 : (List Int)) (q1 : Int) (a0 : Tb) (a1 : Int) (a2 : (List Int)) : Option ((List Ta) × Int × Int × Tb) :=
 Wq (fun (self : ((List Int) × Int × Tb × Int × (List Int)) → Option ((List Ta) × Int × Int × Tb)) (s : (List Int) × Int × Tb × Int × (List Int)) => Qh self s.1 s.2.1 s.2.2.1 s.2.2.2.1 s.2.2.2.2) (q0, q1, a0, a1, a2)
def Jay (t22 : Int) (m : Int) (l_2 : (List (List Ta))) (t72 : ((List Tc))) (m_8 : Int) : Option (Tg × (List Tc) × Int × Int) :=
 Qv (decide (m_8 ≠ 0)) (some ((⟨false, ([] : List (List Ta))⟩ : Tg), ([] : List Tc), m_8, m)) (some ((⟨(decide (t22 = 77)), l_2⟩ : Tg), t72, 0, m))
def U7 (t22 : Int) (m : Int) (l_2 : (List (List Ta))) (t72 : ((List Tc))) (m_7 : Int) : Option (Tg × (List Tc) × Int × Int) :=
 Qv (decide (m_7 = 0)) (Jz (Zw (⟨(decide (t22 = 77)), l_2⟩ : Tg)) fun t95 =>
 Jay t22 m l_2 t72 t95) (Jay t22 m l_2 t72 m_7)
def Ja0 (t22 : Int) (m : Int) (m_2 : (List UInt8)) (m_3 : Bool) (m_4 : Int) (m_5 : Nat) (m_6 : Int) (l : (List Tc)) (l_2 : (List (List Ta))) (mp : (List (Int × Bool))) : Option (Tg × (List Tc) × Int × Int) :=
 Jz (Jcy l J8) fun t72 =>
 Qv (decide (m_6 = 0)) (Jz (Uz t72) fun t83 =>
 Qv t83 (U7 t22 m l_2 t72 6) (U7 t22 m l_2 t72 m_6)) (U7 t22 m l_2 t72 m_6)
def Wh (q0 : (List Int)) (t22 : Int) (next4 : ((Int × Int × (List UInt8) × Bool × Int × Nat × Int × (List Tc) × (List (List Ta)) × (List (Int × Bool))) → Option (Tg × (List Tc) × Int × Int))) (x9_2 : Int) (m_15 : Int) (m_16 : (List UInt8)) (m_17 : Bool) (m_18 : Int) (m_19 : Nat) (m_20 : Int) (l_5 : (List Tc)) (l_6 : (List (List Ta))) (mp_3 : (List (Int × Bool))) : Option (Tg × (List Tc) × Int × Int) :=
 Qv (decide (x9_2 ≠ 0)) (Qv (decide (m_20 = 0)) (Jz (gI (m_18 + 1)) fun t48 =>
 Jz (Jal q0 m_15 (⟨m_16, m_17, l_5, mp_3, t48, m_19, m_20⟩ : Tb) x9_2 ([(l_6.length : Int)] : List Int)) fun t58 =>
 Jz (Xd 24 l_6 ([t58.1] : List (List Ta))) fun l65 =>
 next4 (t58.2.1, t58.2.2.1, t58.2.2.2.s_, t58.2.2.2.kab, t58.2.2.2.kad, t58.2.2.2.kac, t58.2.2.2.no_, t58.2.2.2.kaa, l65, t58.2.2.2.kae)) (Ja0 t22 m_15 m_16 m_17 m_18 m_19 m_20 l_5 l_6 mp_3)) (Ja0 t22 m_15 m_16 m_17 m_18 m_19 m_20 l_5 l_6 mp_3)
def Jeu (q0 : (List Int)) (q1 : Int) (a0 : (List UInt8)) (a1 : Nat) : Option (Tg × (List Tc) × Int × Int) :=
 Qv (decide (65000 < (a0.length : Int))) (some ((⟨false, ([] : List (List Ta))⟩ : Tg), ([] : List Tc), 4, q1)) (Jz (Jcd a0) fun t17 =>
 Qv (!t17) (some ((⟨false, ([] : List (List Ta))⟩ : Tg), ([] : List Tc), 8, q1)) (Jz (gOct a0 0) fun t22 =>
 Jz (Jg (⟨a0, (decide (t22 = 77)), ([] : (List Tc)), ([] : (List (Int × Bool))), 0, a1, 0⟩ : Tb) 4 4) fun t34 =>
 Wq (fun next4 s => Wh q0 t22 next4 s.1 s.2.1 s.2.2.1 s.2.2.2.1 s.2.2.2.2.1 s.2.2.2.2.2.1 s.2.2.2.2.2.2.1 s.2.2.2.2.2.2.2.1 s.2.2.2.2.2.2.2.2.1 s.2.2.2.2.2.2.2.2.2) (t34, q1, a0, (decide (t22 = 77)), 0, a1, 0, ([] : List Tc), ([] : List (List Ta)), ([] : (List (Int × Bool))))))
def W1 (m : Bool) (l : (List Int)) : Option ((List UInt8) × Int) :=
 Qv (decide (65000 < (l.length : Int))) (some ([], 4)) (Jz (Jax (Wn l)) fun t147 =>
 Qv (decide (t147.2 ≠ 0)) (some ([], t147.2)) (some ((Wn l), 0)))
def U4 (a0 : (List UInt8)) (t22 : (Tg × (List Tc) × Int × Int)) (t59 : ((List Int))) (t78 : (Te)) (x111 : Bool) : Option ((List UInt8) × Int) :=
 Qv x111 (Jz (gI (t22.2.2.2 + 8)) fun t130 =>
 Jz (Xx t22.1.Big a0 t130 4) fun t131 =>
 Jz (Xr t78.kak t131 t78.kak.length) fun t132 =>
 W1 t78.kab (Zf t78.kak t131 t132.length t59)) (Jz (gI (t22.2.2.2 + 8)) fun t81 =>
 Jz (Q0 t78) fun t83 =>
 Jz (Js t83.2 t81 t83.1) fun t84 =>
 Jz (Xd 1 t84.kak t59) fun l91 =>
 W1 t84.kab l91)
def Jez (a0 : (List UInt8)) (a1 : (List Int)) (a2 : Td) : Option ((List UInt8) × Int) :=
 Jz (Jeu a1 (-1) a0 0) fun t22 =>
 Qv (decide (t22.2.2.1 ≠ 0)) (some ([], t22.2.2.1)) (Jz (Uy a2) fun t30 =>
 Qv (decide (t30 ≠ 0)) (some ([], t30)) (Qv (decide (t22.2.2.2 < 0)) (some ([], 7)) (Jz (Jeq t22.1 a1) fun t39 =>
 Qv (decide (t39.1.kah = 13)) (some ([], 10)) (Qv (decide (a2.kah = 13)) (some ([], 10)) (Jz (gByt a0) fun t53 =>
 Jz (Yr t22.1.Big a2) fun t59 =>
 Jz (gI (t22.2.2.2 + 2)) fun t65 =>
 Jz (Xr t53 t65 t53.length) fun t66 =>
 Jz (Jh t22.1.Big a2.kah 2) fun t71 =>
 Jz (gI (t22.2.2.2 + 4)) fun t75 =>
 Jz (Qe a2) fun t77 =>
 Jz (Js (⟨t22.1.Big, (Zf t53 t65 t66.length t71)⟩ : Te) t75 t77) fun t78 =>
 Qv (decide ((t59.length : Int) ≤ 4)) (Jz (gI (t22.2.2.2 + 8)) fun t100 =>
 Jz (Js t78 t100 0) fun t101 =>
 Jz (gI (t22.2.2.2 + 8)) fun t107 =>
 Jz (Xr t101.kak t107 t101.kak.length) fun t108 =>
 W1 t101.kab (Zf t101.kak t107 t108.length t59)) (Jz (Vf t39.1) fun t113 =>
 Qv (decide (4 < t113)) (Jz (Vf t39.1) fun t117 =>
 U4 a0 t22 t59 t78 (decide ((t59.length : Int) ≤ t117))) (U4 a0 t22 t59 t78 false)))))))
def Jd6 (ks : List Nat) (a0 : Tg) (l' : List Ta) : Option (Tg × Int) :=
 Jz (Zw ⟨a0.Big, putF ks a0.kal l'⟩) fun c => Qv (decide (c ≠ 0)) (some (noF, c)) (some (⟨a0.Big, putF ks a0.kal l'⟩, 0))
def Jgi (a0 : Tg) (a1 : (List Int)) (a2 : Td) : Option (Tg × Int) :=
 Jz (Zw a0) fun t => Qv (decide (t ≠ 0)) (some (noF, t)) (Jz (Uy a2) fun u => Qv (decide (u ≠ 0)) (some (noF, u)) (open Classical in if fitF 8 a0 ∧ fitV 8 a2 then Jz (Jbb a0.kal a1) fun r => match r with
  | none => some (noF, 7)
  | some ks => Jz (gI ((a1.length : Int) - 1)) fun q => Jz (Q9 a1 q) fun t => Jz (Jb4 (getF ks a0.kal) t) fun p => Qv p.2 (Jz (gSet (getF ks a0.kal) p.1 (⟨t, a2⟩ : Ta)) fun l' => Jd6 ks a0 l') (Jz (gInsN 104 (getF ks a0.kal) p.1 (⟨t, a2⟩ : Ta)) fun l' => Jd6 ks a0 l')
  else none))
def Ja2 (t15 : (Int × Te)) (l : (List Int)) (m : Bool) (l_2 : (List Int)) : Option (Int × Int × Te) :=
 some (t15.1, (l.length : Int), (⟨m, l_2⟩ : Te))
def Z7 (x110_2 : Int) (next3 : ((Int × Bool × (List Int)) → Option (Int × Int × Te))) (m_4 : Bool) (l_5 : (List Int)) : Option (Int × Int × Te) :=
 Jz (gI (x110_2 + 1)) fun t169 =>
 next3 (t169, m_4, l_5)
def Yv (a1 : (List Ta)) (self : (Te × (List Ta)) → Option (Int × Int × Te)) (t15 : (Int × Te)) (l : (List Int)) (next3 : ((Int × Bool × (List Int)) → Option (Int × Int × Te))) (x110_2 : Int) (m_3 : Bool) (l_4 : (List Int)) : Option (Int × Int × Te) :=
 Qv (decide (x110_2 < (a1.length : Int))) (Jz (Q9 a1 x110_2) fun t113 =>
 Jz (gI (t15.1 + 2)) fun t116 =>
 Jz (gI (12 * x110_2)) fun t118 =>
 Jz (gI (t116 + t118)) fun t119 =>
 Jz (gI (t119 + 8)) fun t120 =>
 Qv (decide (t113.Value.kah = 13)) (Jz (self ((⟨m_3, l_4⟩ : Te), t113.Value.kaf)) fun t130 =>
 Jz (Js t130.2.2 t120 t130.1) fun t136 =>
 Z7 x110_2 next3 t136.kab t136.kak) (Jz (Yr m_3 t113.Value) fun t143 =>
 Qv (decide ((t143.length : Int) ≤ 4)) (Jz (Xr l_4 t120 l_4.length) fun t152 =>
 Z7 x110_2 next3 m_3 (Zf l_4 t120 t152.length t143)) (Jz (Q0 (⟨m_3, l_4⟩ : Te)) fun t158 =>
 Jz (Js t158.2 t120 t158.1) fun t159 =>
 Jz (Xd 1 t159.kak t143) fun l166 =>
 Z7 x110_2 next3 t159.kab l166))) (Ja2 t15 l m_3 l_4)
def Wg (a1 : (List Ta)) (self : (Te × (List Ta)) → Option (Int × Int × Te)) (t15 : (Int × Te)) (l : (List Int)) : Option (Int × Int × Te) :=
 Jz (Xd 1 l ([0, 0, 0, 0] : List Int)) fun l105 =>
 Wq (fun next3 s => Yv a1 self t15 l next3 s.1 s.2.1 s.2.2) (0, t15.2.kab, l105)
def Yk (a1 : (List Ta)) (self : (Te × (List Ta)) → Option (Int × Int × Te)) (t15 : (Int × Te)) (next5 : ((Int × (List Int)) → Option (Int × Int × Te))) (x33_2 : Int) (l_7 : (List Int)) : Option (Int × Int × Te) :=
 Qv (decide (x33_2 < (a1.length : Int))) (Jz (Q9 a1 x33_2) fun t35 =>
 Jz (Jh t15.2.kab t35.Tag 2) fun t48 =>
 Jz (Xd 1 l_7 t48) fun l49 =>
 Jz (Jh t15.2.kab t35.Value.kah 2) fun t64 =>
 Jz (Xd 1 l49 t64) fun l65 =>
 Jz (Qe t35.Value) fun t79 =>
 Jz (Jh t15.2.kab t79 4) fun t80 =>
 Jz (Xd 1 l65 t80) fun l81 =>
 Jz (Xd 1 l81 ([0, 0, 0, 0] : List Int)) fun l90 =>
 Jz (gI (x33_2 + 1)) fun t93 =>
 next5 (t93, l90)) (Wg a1 self t15 l_7)
def Yh (self : (Te × (List Ta)) → Option (Int × Int × Te)) (a0 : Te) (a1 : (List Ta)) : Option (Int × Int × Te) :=
 Jz (Q0 a0) fun t15 =>
 Jz (Jh t15.2.kab (a1.length : Int) 2) fun t27 =>
 Jz (Xd 1 t15.2.kak t27) fun l28 =>
 Wq (fun next5 s => Yk a1 self t15 next5 s.1 s.2) (0, l28)
def Jaw (a0 : Te) (a1 : (List Ta)) : Option (Int × Int × Te) :=
 Wq (fun (self : (Te × (List Ta)) → Option (Int × Int × Te)) (s : Te × (List Ta)) => Yh self s.1 s.2) (a0, a1)
def Jb8 (m : Bool) (l_2 : (List Int)) : Option ((List UInt8)) :=
 some (Wn l_2)
def Z4 (a0 : Tg) (next3 : ((Int × Int × Bool × (List Int)) → Option ((List UInt8)))) (x4_2 : Int) (x50_2 : Int) (m_3 : Bool) (l_4 : (List Int)) : Option ((List UInt8)) :=
 Qv (decide (x50_2 < (a0.kal.length : Int))) (Jz (Q9 a0.kal x50_2) fun t52 =>
 Jz (Jaw (⟨m_3, l_4⟩ : Te) t52) fun t57 =>
 Jz (Js t57.2.2 x4_2 t57.1) fun t63 =>
 Jz (gI (x50_2 + 1)) fun t65 =>
 next3 (t57.2.1, t65, t63.kab, t63.kak)) (Jb8 m_3 l_4)
def Uu (a0 : Tg) (l : (List Int)) : Option ((List UInt8)) :=
 Jz (Jh a0.Big 42 2) fun t29 =>
 Jz (gApN 1 l t29) fun l30 =>
 Jz (Xd 1 l30 ([0, 0, 0, 0] : List Int)) fun l44 =>
 Wq (fun next3 s => Z4 a0 next3 s.1 s.2.1 s.2.2.1 s.2.2.2) ((l30.length : Int), 0, a0.Big, l44)
def Jcn (a0 : Tg) : Option ((List UInt8)) :=
 Qv a0.Big (Uu a0 ([77, 77] : List Int)) (Uu a0 ([73, 73] : List Int))
def Jb6 (a0 : Tg) : Option ((List UInt8) × Int) :=
 Jz (Zw a0) fun t6 =>
 Qv (decide (t6 ≠ 0)) (some ([], t6)) (Jz (Jcn a0) fun t11 =>
 some (t11, 0))
def Wa (q0 : (List (List Int))) (a0 : (List Int)) : Option ((List (List Int))) :=
 Jz (Jj a0) fun t5 =>
 Jz (Xd 24 q0 ([t5] : List (List Int))) fun l8 =>
 some l8
def Ya (a0 : (List Tf)) (a1 : (List Tf)) (next1 : ((Int) → Option (Bool))) (x13_2 : Int) : Option (Bool) :=
 Qv (decide (x13_2 < (a0.length : Int))) (Jz (Q9 a0 x13_2) fun t18 =>
 Jz (Q9 a1 x13_2) fun t22 =>
 Qv (!(Vd t18 t22)) (some false) (Jz (gI (x13_2 + 1)) fun t25 =>
 next1 t25)) (some true)
def Vh (a0 : (List Tf)) (a1 : (List Tf)) : Option (Bool) :=
 Qv (decide ((a0.length : Int) ≠ (a1.length : Int))) (some false) (Wq (fun next1 s => Ya a0 a1 next1 s) 0)
def Jbg (a0 : Td) (a1 : Td) : Option (Bool) :=
 Qv (decide (a0.kah = a1.kah)) (Qv (decide (a0.kai = a1.kai)) (Jz (Vp a0.kaj a1.kaj) fun t22 =>
 Qv t22 (Jz (Vh a0.kag a1.kag) fun t29 =>
 some t29) (some false)) (some false)) (some false)
def Ue (x8_2 : Int) (x9_2 : Int) (next1 : ((Int × Int × (List (List Int))) → Option ((List (List Int))))) (l_3 : (List (List Int))) : Option ((List (List Int))) :=
 Jz (gI (x8_2 + 1)) fun t65 =>
 Jz (gI (x9_2 + 1)) fun t67 =>
 next1 (t65, t67, l_3)
def Uj (self : ((List Ta) × (List Ta) × (List Int) × (List (List Int))) → Option ((List (List Int)))) (x8_2 : Int) (x9_2 : Int) (l_2 : (List (List Int))) (next1 : ((Int × Int × (List (List Int))) → Option ((List (List Int))))) (l31 : (List Int)) (t34 : Ta) (t39 : Ta) (x49 : Bool) : Option ((List (List Int))) :=
 Qv x49 (Jz (self (t34.Value.kaf, t39.Value.kaf, l31, l_2)) fun t56 =>
 Ue x8_2 x9_2 next1 t56) (Jz (Jbg t34.Value t39.Value) fun t59 =>
 Qv (!t59) (Jz (Wa l_2 l31) fun t63 =>
 Ue x8_2 x9_2 next1 t63) (Ue x8_2 x9_2 next1 l_2))
def Uk (a0 : (List Ta)) (a1 : (List Ta)) (a2 : (List Int)) (self : ((List Ta) × (List Ta) × (List Int) × (List (List Int))) → Option ((List (List Int)))) (x8_2 : Int) (x9_2 : Int) (l_2 : (List (List Int))) (next1 : ((Int × Int × (List (List Int))) → Option ((List (List Int))))) (x105 : Bool) : Option ((List (List Int))) :=
 Qv x105 (Jz (Q9 a1 x9_2) fun t128 =>
 Jz (Xd 8 a2 ([t128.Tag] : List Int)) fun l132 =>
 Jz (Wa l_2 l132) fun t133 =>
 Jz (gI (x9_2 + 1)) fun t135 =>
 next1 (x8_2, t135, t133)) (Jz (Q9 a0 x8_2) fun t27 =>
 Jz (Xd 8 a2 ([t27.Tag] : List Int)) fun l31 =>
 Jz (Q9 a0 x8_2) fun t34 =>
 Jz (Q9 a1 x9_2) fun t39 =>
 Qv (decide (t34.Value.kah = 13)) (Uj self x8_2 x9_2 l_2 next1 l31 t34 t39 (decide (t39.Value.kah = 13))) (Uj self x8_2 x9_2 l_2 next1 l31 t34 t39 false))
def Vl (a0 : (List Ta)) (a1 : (List Ta)) (a2 : (List Int)) (self : ((List Ta) × (List Ta) × (List Int) × (List (List Int))) → Option ((List (List Int)))) (x8_2 : Int) (x9_2 : Int) (l_2 : (List (List Int))) (next1 : ((Int × Int × (List (List Int))) → Option ((List (List Int))))) (x68 : Bool) : Option ((List (List Int))) :=
 Qv x68 (Jz (Q9 a0 x8_2) fun t97 =>
 Jz (Xd 8 a2 ([t97.Tag] : List Int)) fun l101 =>
 Jz (Wa l_2 l101) fun t102 =>
 Jz (gI (x8_2 + 1)) fun t104 =>
 next1 (t104, x9_2, t102)) (Qv (decide (x8_2 = (a0.length : Int))) (Uk a0 a1 a2 self x8_2 x9_2 l_2 next1 true) (Jz (Q9 a1 x9_2) fun t113 =>
 Jz (Q9 a0 x8_2) fun t118 =>
 Uk a0 a1 a2 self x8_2 x9_2 l_2 next1 (decide (t113.Tag < t118.Tag))))
def Ui (a0 : (List Ta)) (a1 : (List Ta)) (a2 : (List Int)) (self : ((List Ta) × (List Ta) × (List Int) × (List (List Int))) → Option ((List (List Int)))) (x8_2 : Int) (x9_2 : Int) (l_2 : (List (List Int))) (next1 : ((Int × Int × (List (List Int))) → Option ((List (List Int))))) : Option ((List (List Int))) :=
 Qv (decide (x9_2 = (a1.length : Int))) (Vl a0 a1 a2 self x8_2 x9_2 l_2 next1 true) (Qv (decide (x8_2 < (a0.length : Int))) (Jz (Q9 a0 x8_2) fun t81 =>
 Jz (Q9 a1 x9_2) fun t86 =>
 Vl a0 a1 a2 self x8_2 x9_2 l_2 next1 (decide (t81.Tag < t86.Tag))) (Vl a0 a1 a2 self x8_2 x9_2 l_2 next1 false))
def Z0 (a0 : (List Ta)) (a1 : (List Ta)) (a2 : (List Int)) (self : ((List Ta) × (List Ta) × (List Int) × (List (List Int))) → Option ((List (List Int)))) (next1 : ((Int × Int × (List (List Int))) → Option ((List (List Int))))) (x8_2 : Int) (x9_2 : Int) (l_2 : (List (List Int))) : Option ((List (List Int))) :=
 Qv (decide (x8_2 < (a0.length : Int))) (Ui a0 a1 a2 self x8_2 x9_2 l_2 next1) (Qv (decide (x9_2 < (a1.length : Int))) (Ui a0 a1 a2 self x8_2 x9_2 l_2 next1) (some l_2))
def Zq (self : ((List Ta) × (List Ta) × (List Int) × (List (List Int))) → Option ((List (List Int)))) (a0 : (List Ta)) (a1 : (List Ta)) (a2 : (List Int)) (a3 : (List (List Int))) : Option ((List (List Int))) :=
 Wq (fun next1 s => Z0 a0 a1 a2 self next1 s.1 s.2.1 s.2.2) (0, 0, a3)
def Jb9 (a0 : (List Ta)) (a1 : (List Ta)) (a2 : (List Int)) (a3 : (List (List Int))) : Option ((List (List Int))) :=
 Wq (fun (self : ((List Ta) × (List Ta) × (List Int) × (List (List Int))) → Option ((List (List Int)))) (s : (List Ta) × (List Ta) × (List Int) × (List (List Int))) => Zq self s.1 s.2.1 s.2.2.1 s.2.2.2) (a0, a1, a2, a3)
def Je7 (l : (List (List Int))) : Option ((List (List Int)) × Int) :=
 some (l, 0)
def Vi (a0 : Tg) (a1 : Tg) (next3 : ((Int × (List (List Int))) → Option ((List (List Int)) × Int))) (x35_2 : Int) (l_3 : (List (List Int))) : Option ((List (List Int)) × Int) :=
 Qv (decide (x35_2 < (a0.kal.length : Int))) (Jz (Q9 a0.kal x35_2) fun t41 =>
 Jz (Q9 a1.kal x35_2) fun t46 =>
 Jz (Jb9 t41 t46 ([x35_2] : List Int) l_3) fun t51 =>
 Jz (gI (x35_2 + 1)) fun t52 =>
 next3 (t52, t51)) (Je7 l_3)
def Jaf (a0 : Tg) (a1 : Tg) : Option ((List (List Int)) × Int) :=
 Qv (decide ((a0.kal.length : Int) ≠ (a1.kal.length : Int))) (some (([] : List (List Int)), 1)) (Wq (fun next3 s => Vi a0 a1 next3 s.1 s.2) (0, ([] : List (List Int))))
def Yg (a0 : Tg) (a1 : Tg) (next4 : ((Int) → Option ((List (List Int)) × Int))) (x15_2 : Int) : Option ((List (List Int)) × Int) :=
 Qv (decide (x15_2 < 2)) (Jz (Q9 ([a0, a1] : List Tg) x15_2) fun t17 =>
 Jz (Zw t17) fun t20 =>
 Qv (decide (t20 ≠ 0)) (some (([] : List (List Int)), t20)) (Jz (gI (x15_2 + 1)) fun t24 =>
 next4 t24)) (Jaf a0 a1)
def Jdw (a0 : Tg) (a1 : Tg) : Option ((List (List Int)) × Int) :=
 Wq (fun next4 s => Yg a0 a1 next4 s) 0
def V2 (t122 : (Td × Int)) (x21 : Int) : Option (Bool) :=
 Jz (gI ((t122.1.kaj.length : Int) + (t122.1.kag.length : Int))) fun t149 =>
 Jz (gI (8 * t149)) fun t150 =>
 Jz (gI (10 + t150)) fun t151 =>
 Jz (gI (t151 + (t122.1.kai.length : Int))) fun t155 =>
 Jz (gI (t155 + 1)) fun t156 =>
 some (decide (x21 ≤ t156))
def Zt (x129_2 : Int) (next3 : ((Int × Int) → Option (Bool))) (x21_4 : Int) : Option (Bool) :=
 Jz (gI (x129_2 + 1)) fun t141 =>
 next3 (x21_4, t141)
def X3 (a0 : (List UInt8)) (t29 : ((List UInt8) × Int)) (t122 : (Td × Int)) (next3 : ((Int × Int) → Option (Bool))) (x21_3 : Int) (x129_2 : Int) : Option (Bool) :=
 Qv (decide (x129_2 < (a0.length : Int))) (Jz (gOct a0 x129_2) fun t134 =>
 Jz (gOct t29.1 x129_2) fun t137 =>
 Qv (decide (t134 ≠ t137)) (Jz (gI (x21_3 + 1)) fun t140 =>
 Zt x129_2 next3 t140) (Zt x129_2 next3 x21_3)) (V2 t122 x21_3)
def Zs (a0 : (List UInt8)) (a1 : (List Int)) (t29 : ((List UInt8) × Int)) (t38 : (Tg × Int)) : Option (Bool) :=
 Jz (Jeq t38.1 a1) fun t122 =>
 Qv (decide (t122.2 ≠ 0)) (some false) (Wq (fun next3 s => X3 a0 t29 t122 next3 s.1 s.2) (0, 0))
def W4 (a0 : (List UInt8)) (a1 : (List Int)) (a2 : Td) : Option (Bool) :=
 Jz (Jbi) fun t23 =>
 Qv (!t23) (some false) (Jz (Jez a0 a1 a2) fun t29 =>
 Qv (decide (t29.2 ≠ 0)) (some (decide (t29.1 = []))) (Jz (Jax a0) fun t38 =>
 Jz (Jax t29.1) fun t43 =>
 Jz (Jgi t38.1 a1 a2) fun t50 =>
 Jz (Jb6 t43.1) fun t55 =>
 Jz (Jb6 t50.1) fun t60 =>
 Qv (decide (t38.2 ≠ 0)) (some false) (Qv (decide (t43.2 ≠ 0)) (some false) (Qv (decide (t50.2 ≠ 0)) (some false) (Qv (decide (t55.2 ≠ 0)) (some false) (Qv (decide (t60.2 ≠ 0)) (some false) (Qv (decide (t55.1 ≠ t60.1)) (some false) (Qv (decide ((t29.1.length : Int) < (a0.length : Int))) (some false) (Jz (Jdw t38.1 t43.1) fun t96 =>
 Qv (decide (t96.2 ≠ 0)) (some false) (Qv (decide (1 < (t96.1.length : Int))) (some false) (Qv (decide ((t96.1.length : Int) = 1)) (Jz (Q9 t96.1 0) fun t112 =>
 Jz (Vp t112 a1) fun t115 =>
 Qv (!t115) (some false) (Zs a0 a1 t29 t38)) (Zs a0 a1 t29 t38))))))))))))
end
end Go.M

namespace Go.Proofs
open Go.Shelf
def Try.sortFP_ren : Go.Shelf.Ren := ⟨fun | 6 => 41 | 15 => 63 | 14 => 62 | 28 => 81 | 29 => 82 | 20 => 73 | 21 => 74 | 22 => 75 | 23 => 76 | 24 => 77 | 25 => 78 | 26 => 79 | 27 => 80 | 46 => 87 | 47 => 88 | 48 => 89 | 49 => 90 | 50 => 91 | 57 => 92 | n => n, fun | 22 => 49 | 24 => 94 | 25 => 95 | 3 => 3 | 39 => 99 | 0 => 0 | 53 => 129 | 55 => 131 | 4 => 4 | 46 => 123 | 45 => 122 | 50 => 73 | 5 => 5 | 9 => 9 | 66 => 134 | 70 => 138 | 76 => 140 | 77 => 107 | n => n, fun | n => n⟩
theorem Try.sortFP : Go.Proofs.SlLaysF0.n6 Try.prog Try.sortFP_ren := {
 mixed := by kernel_rfl
 f6 := ⟨Try.f41.name, by decide, Try.func41.trans (congrArg some (by kernel_rfl))⟩
 f14 := ⟨Try.f62.name, by decide, Try.func62.trans (congrArg some (by kernel_rfl))⟩
 f15 := Try.func63.trans (congrArg some (by kernel_rfl))
 f20 := ⟨Try.f73.name, by decide, Try.func73.trans (congrArg some (by kernel_rfl))⟩
 f21 := ⟨Try.f74.name, by decide, Try.func74.trans (congrArg some (by kernel_rfl))⟩
 f22 := ⟨Try.f75.name, by decide, Try.func75.trans (congrArg some (by kernel_rfl))⟩
 f23 := ⟨Try.f76.name, by decide, Try.func76.trans (congrArg some (by kernel_rfl))⟩
 f24 := ⟨Try.f77.name, by decide, Try.func77.trans (congrArg some (by kernel_rfl))⟩
 f25 := ⟨Try.f78.name, by decide, Try.func78.trans (congrArg some (by kernel_rfl))⟩
 f26 := ⟨Try.f79.name, by decide, Try.func79.trans (congrArg some (by kernel_rfl))⟩
 f27 := ⟨Try.f80.name, by decide, Try.func80.trans (congrArg some (by kernel_rfl))⟩
 f28 := Try.func81.trans (congrArg some (by kernel_rfl))
 f29 := Try.func82.trans (congrArg some (by kernel_rfl))
 f46 := ⟨Try.f87.name, by decide, Try.func87.trans (congrArg some (by kernel_rfl))⟩
 f47 := Try.func88.trans (congrArg some (by kernel_rfl))
 f48 := Try.func89.trans (congrArg some (by kernel_rfl))
 f49 := ⟨Try.f90.name, by decide, Try.func90.trans (congrArg some (by kernel_rfl))⟩
 f50 := ⟨Try.f91.name, by decide, Try.func91.trans (congrArg some (by kernel_rfl))⟩
 f57 := ⟨Try.f92.name, by decide, Try.func92.trans (congrArg some (by kernel_rfl))⟩
 t0 := Try.underlying0
 a0 := Try.isAgg0
 z0 := Try.sizeOf0
 v0 := Try.zeroValue0
 t3 := Try.underlying3
 a3 := Try.isAgg3
 z3 := Try.sizeOf3
 v3 := Try.zeroValue3
 t4 := Try.underlying4
 a4 := Try.isAgg4
 z4 := Try.sizeOf4
 v4 := Try.zeroValue4
 t5 := Try.underlying5
 a5 := Try.isAgg5
 z5 := Try.sizeOf5
 v5 := Try.zeroValue5
 t9 := Try.underlying9
 a9 := Try.isAgg9
 z9 := Try.sizeOf9
 v9 := Try.zeroValue9
 t22 := Try.underlying49
 a22 := Try.isAgg49
 z22 := Try.sizeOf49
 v22 := Try.zeroValue49
 t25 := Try.underlying95
 a25 := Try.isAgg95
 z25 := Try.sizeOf95
 v25 := Try.zeroValue95
 t39 := Try.underlying99
 a39 := Try.isAgg99
 z39 := Try.sizeOf99
 v39 := Try.zeroValue99
 t45 := Try.underlying122
 a45 := Try.isAgg122
 z45 := Try.sizeOf122
 v45 := Try.zeroValue122
 t46 := Try.underlying123
 a46 := Try.isAgg123
 z46 := Try.sizeOf123
 v46 := Try.zeroValue123
 t50 := Try.underlying73
 a50 := Try.isAgg73
 z50 := Try.sizeOf73
 v50 := Try.zeroValue73
 t53 := Try.underlying129
 a53 := Try.isAgg129
 z53 := Try.sizeOf129
 v53 := Try.zeroValue129
 t55 := Try.underlying131
 a55 := Try.isAgg131
 z55 := Try.sizeOf131
 v55 := Try.zeroValue131
 t66 := Try.underlying134
 a66 := Try.isAgg134
 z66 := Try.sizeOf134
 v66 := Try.zeroValue134
 t70 := Try.underlying138
 a70 := Try.isAgg138
 z70 := Try.sizeOf138
 v70 := Try.zeroValue138
 t76 := Try.underlying140
 a76 := Try.isAgg140
 z76 := Try.sizeOf140
 v76 := Try.zeroValue140
 t77 := Try.underlying107
 a77 := Try.isAgg107
 z77 := Try.sizeOf107
 v77 := Try.zeroValue107 }
def Try.cmpI65_ren : Go.Shelf.Ren := ⟨fun | 5 => 65 | 7 => 83 | n => n, fun | 22 => 3 | 3 => 3 | 4 => 4 | n => n, fun | n => n⟩
theorem Try.cmpI65 : Go.Proofs.SlLaysC2.n5 Try.prog Try.cmpI65_ren := {
 mixed := by kernel_rfl
 f5 := ⟨Try.f65.name, by decide, Try.func65.trans (congrArg some (by kernel_rfl))⟩
 f7 := ⟨Try.f83.name, by decide, Try.func83.trans (congrArg some (by kernel_rfl))⟩
 t3 := Try.underlying3
 a3 := Try.isAgg3
 z3 := Try.sizeOf3
 v3 := Try.zeroValue3
 t4 := Try.underlying4
 a4 := Try.isAgg4
 z4 := Try.sizeOf4
 v4 := Try.zeroValue4
 t22 := Try.underlying3
 a22 := Try.isAgg3
 z22 := Try.sizeOf3
 v22 := Try.zeroValue3 }
end Go.Proofs

namespace Go.Vc
open Go
abbrev Xs := Nat → Value
def upd (e : Xs) (d : Nat) (v : Value) : Xs := fun t => bif Nat.beq t d then v else e t
def ev (e : Xs) : Operand → Value
 | .tmp t => e t
 | .const v => v
 | .global g => .pointer (some ⟨g, 0, none⟩)
 | .func f => .func (.func f) #[] #[]
structure Sim (n : Nat) (a : Act) (e : Xs) : Prop where
 defers : a.defers = []
 size : a.tmps.size = n
 val : ∀ t, a.tmps.getD t undef = e t
theorem Sim.ev {n : Nat} {a : Act} {e : Xs} (h : Sim n a e) : a.eval = ev e := by
 funext o
 cases o <;> simp [Act.eval, Vc.ev, h.val]
theorem beq_eq (a b : Nat) : Nat.beq a b = decide (a = b) := by
 rw [Bool.eq_iff_iff]; simp [Nat.beq_eq]
theorem upd_same (e : Xs) (d : Nat) (v : Value) : upd e d v d = v := by simp [upd]
theorem upd_ne (e : Xs) (d t : Nat) (v : Value) (h : t ≠ d) : upd e d v t = e t := by simp [upd, beq_eq, h]
theorem Sim.put {n : Nat} {a : Act} {e : Xs} (h : Sim n a e) {d : Nat} (hd : Nat.blt d n = true) (v : Value) : Sim n (a.put (some d) v) (upd e d v) := by
 have hd' : d < n := by simpa using hd
 refine ⟨h.defers, by simp [Act.put, h.size], fun t => ?_⟩
 have ht := h.val t
 by_cases htd : t = d
 ·subst htd
  rw [upd_same]
  simp [Act.put, Array.getD_eq_getD_getElem?, h.size, hd']
 ·rw [upd_ne _ _ _ _ htd, ← ht]
  simp only [Act.put, Array.getD_eq_getD_getElem?]
  rw [Array.getElem?_setIfInBounds]
  have : ¬ d = t := fun e => htd e.symm
  simp [this]
def lget : List Value → Xs
 | [], _ => undef
 | v :: _, 0 => v
 | _ :: l, t + 1 => lget l t
theorem lget_eq (l : List Value) (t : Nat) : lget l t = l.getD t undef := by
 induction l generalizing t with
 | nil => simp [lget]
 | cons v l ih => cases t <;> simp [lget, ih]
def Grow (w w' : World) : Prop := Go.RowKit.Below w.heap.size w w'
theorem Grow.refl (w : World) : Grow w w := Go.RowKit.Below.refl _ _
theorem Grow.trans {a b c : World} (h : Grow a b) (k : Grow b c) : Grow a c := Go.RowKit.Below.trans h (Go.RowKit.Below.mono k h.size)
structure Chunk where
 P : (Nat → Prop) → World → Prop
 loc : ∀ S w w', (∀ b, S b → w'.heap[b]? = w.heap[b]?) → P S w → P S w'
structure Cx where
 w0 : World
 S0 : Nat → Prop
def Cx.own (cx : Cx) (b : Nat) : Prop := cx.w0.heap.size ≤ b ∨ cx.S0 b
structure Fr (cx : Cx) (w : World) : Prop where
 os : w.os = cx.w0.os
 tape : w.tape = cx.w0.tape
 output : w.output = cx.w0.output
 size : cx.w0.heap.size ≤ w.heap.size
 block : ∀ b, ¬ cx.own b → w.heap[b]? = cx.w0.heap[b]?
structure Sat (cx : Cx) (w : World) (L : List Chunk) : Prop where
 out : ∃ fp : Nat → Nat → Prop, (∀ (i : Nat) (c : Chunk), L[i]? = some c → c.P (fp i) w) ∧ (∀ i b, fp i b → i < L.length ∧ b < w.heap.size ∧ cx.own b) ∧ (∀ i j b, fp i b → fp j b → i = j)
theorem Fr.refl (w : World) (S0 : Nat → Prop) : Fr ⟨w, S0⟩ w := ⟨rfl, rfl, rfl, Nat.le_refl _, fun _ _ => rfl⟩
theorem Fr.grow {cx : Cx} {w w' : World} (h : Fr cx w) (g : Grow w w') : Fr cx w' := by
 refine ⟨g.os.trans h.os, g.tape.trans h.tape, g.output.trans h.output, Nat.le_trans h.size g.size, fun b hb => ?_⟩
 have hlt : b < w.heap.size := by
  have : ¬ cx.w0.heap.size ≤ b := fun hh => hb (.inl hh)
  have := h.size
  omega
 rw [g.block b hlt, h.block b hb]
theorem Sat.grow {cx : Cx} {w w' : World} {L : List Chunk} (h : Sat cx w L) (g : Grow w w') : Sat cx w' L := by
 obtain ⟨fp, h1, h2, h3⟩ := h.out
 refine ⟨fp, fun i c hc => c.loc _ _ _ (fun b hb => g.block b (h2 i b hb).2.1) (h1 i c hc), fun i b hb => ?_, h3⟩
 obtain ⟨a1, a2, a3⟩ := h2 i b hb
 exact ⟨a1, Nat.lt_of_lt_of_le a2 g.size, a3⟩
theorem Sat.nil (cx : Cx) (w : World) : Sat cx w [] := ⟨fun _ _ => False, by simp, fun _ _ h => h.elim, fun _ _ _ h => h.elim⟩
theorem Sat.snoc {cx : Cx} {w w' : World} {L : List Chunk} {c : Chunk} {S : Nat → Prop} (h : Sat cx w L) (hf : Fr cx w) (g : Grow w w') (hc : c.P S w')
  (hS : ∀ b, S b → w.heap.size ≤ b ∧ b < w'.heap.size) : Sat cx w' (L ++ [c]) := by
 obtain ⟨fp, k1, h2, h3⟩ := h.out
 have h1 : ∀ (i : Nat) (c : Chunk), L[i]? = some c → c.P (fp i) w' := fun i c hc => c.loc _ _ _ (fun b hb => g.block b (h2 i b hb).2.1) (k1 i c hc)
 refine ⟨fun i b => (i < L.length ∧ fp i b) ∨ (i = L.length ∧ S b), ?_, ?_, ?_⟩
 ·intro i d hd
  by_cases hi : i < L.length
  ·have : (fun b => (i < L.length ∧ fp i b) ∨ (i = L.length ∧ S b)) = fp i := by
    funext b; apply propext; constructor
    ·rintro (⟨_, h⟩ | ⟨h, _⟩)
     ·exact h
     ·omega
    ·exact fun h => .inl ⟨hi, h⟩
   show d.P (fun b => (i < L.length ∧ fp i b) ∨ (i = L.length ∧ S b)) w'
   rw [this]
   exact h1 i d (by simpa [List.getElem?_append_left hi] using hd)
  ·have hle : L.length ≤ i := by omega
   rw [List.getElem?_append_right hle] at hd
   have hi0 : i - L.length = 0 := by
    by_cases h0 : i - L.length = 0
    ·exact h0
    ·obtain ⟨k, hk⟩ : ∃ k, i - L.length = k + 1 := ⟨i - L.length - 1, by omega⟩
     rw [hk] at hd; simp at hd
   have hil : i = L.length := by omega
   rw [hi0] at hd
   simp at hd
   subst hd
   have : (fun b => (i < L.length ∧ fp i b) ∨ (i = L.length ∧ S b)) = S := by
    funext b; apply propext; constructor
    ·rintro (⟨h, _⟩ | ⟨_, h⟩)
     ·omega
     ·exact h
    ·exact fun h => .inr ⟨hil, h⟩
   show c.P (fun b => (i < L.length ∧ fp i b) ∨ (i = L.length ∧ S b)) w'
   rw [this]
   exact hc
 ·rintro i b (⟨hi, hb⟩ | ⟨hi, hb⟩)
  ·obtain ⟨a1, a2, a3⟩ := h2 i b hb
   exact ⟨by simp; omega, Nat.lt_of_lt_of_le a2 g.size, a3⟩
  ·obtain ⟨a1, a2⟩ := hS b hb
   exact ⟨by simp; omega, a2, .inl (Nat.le_trans hf.size a1)⟩
 ·rintro i j b (⟨hi, hb⟩ | ⟨hi, hb⟩) (⟨hj, hb'⟩ | ⟨hj, hb'⟩)
  ·exact h3 i j b hb hb'
  ·have := (h2 i b hb).2.1; have := (hS b hb').1; omega
  ·have := (h2 j b hb').2.1; have := (hS b hb).1; omega
  ·omega
theorem Sat.set {cx : Cx} {w w' : World} {L : List Chunk} {i : Nat} {c c' : Chunk} (h : Sat cx w L) (hf : Fr cx w) (hi : L[i]? = some c)
  (hs : w.heap.size ≤ w'.heap.size)
  (hc : ∀ S : Nat → Prop, c.P S w → (∀ b, S b → b < w.heap.size ∧ cx.own b) → ∃ S' : Nat → Prop, c'.P S' w' ∧ (∀ b, S' b → b < w'.heap.size ∧ (S b ∨ w.heap.size ≤ b)) ∧ ∀ b, b < w.heap.size → ¬ S b → w'.heap[b]? = w.heap[b]?) :
  Sat cx w' (L.set i c') := by
 obtain ⟨fp, h1, h2, h3⟩ := h.out
 obtain ⟨S', k1, k2, k3⟩ := hc (fp i) (h1 i c hi) (fun b hb => (h2 i b hb).2)
 have hil : i < L.length := by
  rcases Nat.lt_or_ge i L.length with h | h
  ·exact h
  ·simp [List.getElem?_eq_none h] at hi
 refine ⟨fun j b => if j = i then S' b else fp j b, ?_, ?_, ?_⟩
 ·intro j d hd
  by_cases hji : j = i
  ·subst hji
   simp [List.getElem?_set_self hil] at hd
   subst hd
   simpa using k1
  ·rw [List.getElem?_set_ne (fun e => hji e.symm)] at hd
   simp only [hji, if_false]
   exact d.loc _ _ _ (fun b hb => k3 b (h2 j b hb).2.1 (fun hib => hji (h3 j i b hb hib))) (h1 j d hd)
 ·intro j b hb
  by_cases hji : j = i
  ·simp only [hji, if_true] at hb
   refine ⟨by simp [hji, hil], (k2 b hb).1, ?_⟩
   rcases (k2 b hb).2 with h | h
   ·exact (h2 i b h).2.2
   ·exact .inl (Nat.le_trans hf.size h)
  ·simp only [hji, if_false] at hb
   obtain ⟨a1, a2, a3⟩ := h2 j b hb
   exact ⟨by simpa using a1, by omega, a3⟩
 ·intro j k b hj hk
  by_cases hji : j = i <;> by_cases hki : k = i <;> simp only [hji, hki, if_true, if_false] at hj hk
  ·omega
  ·obtain ⟨_, a2, _⟩ := h2 k b hk
   rcases (k2 b hj).2 with h | h
   ·exact absurd (h3 k i b hk h) hki
   ·omega
  ·obtain ⟨_, a2, _⟩ := h2 j b hj
   rcases (k2 b hk).2 with h | h
   ·exact absurd (h3 j i b hj h) hji
   ·omega
  ·exact h3 j k b hj hk
theorem Sat.select {cx : Cx} {w : World} {L L' : List Chunk} (h : Sat cx w L) (sel : List Nat) (hnd : sel.Nodup) (hs : sel.map (fun i => L[i]?) = L'.map some) : Sat cx w L' := by
 obtain ⟨fp, h1, h2, h3⟩ := h.out
 have hlen : sel.length = L'.length := by simpa using congrArg List.length hs
 refine ⟨fun k b => ∃ i, sel[k]? = some i ∧ fp i b, ?_, ?_, ?_⟩
 ·intro k c hc
  have hk : (sel.map (fun i => L[i]?))[k]? = (L'.map some)[k]? := by rw [hs]
  simp only [List.getElem?_map, hc, Option.map_some] at hk
  cases hsk : sel[k]? with
  | none => simp [hsk] at hk
  | some i =>
   simp [hsk] at hk
   have : (fun b => ∃ j, some i = some j ∧ fp j b) = fp i := by
    funext b; apply propext; constructor
    ·rintro ⟨j, hj, hb⟩; cases hj; exact hb
    ·exact fun hb => ⟨i, rfl, hb⟩
   show c.P (fun b => ∃ j, sel[k]? = some j ∧ fp j b) w
   rw [hsk, this]
   exact h1 i c hk
 ·rintro k b ⟨i, hi, hb⟩
  have hkl : k < sel.length := by
   rcases Nat.lt_or_ge k sel.length with h | h
   ·exact h
   ·simp [List.getElem?_eq_none h] at hi
  exact ⟨by omega, (h2 i b hb).2⟩
 ·rintro k k' b ⟨i, hi, hb⟩ ⟨i', hi', hb'⟩
  have := h3 i i' b hb hb'
  subst this
  have hkl : k < sel.length := by
   rcases Nat.lt_or_ge k sel.length with h | h
   ·exact h
   ·simp [List.getElem?_eq_none h] at hi
  have hkl' : k' < sel.length := by
   rcases Nat.lt_or_ge k' sel.length with h | h
   ·exact h
   ·simp [List.getElem?_eq_none h] at hi'
  have hp := List.pairwise_iff_getElem.1 hnd
  rw [List.getElem?_eq_getElem hkl] at hi
  rw [List.getElem?_eq_getElem hkl'] at hi'
  rcases Nat.lt_trichotomy k k' with h | h | h
  ·exact absurd ((Option.some.inj hi).trans (Option.some.inj hi').symm) (hp k k' hkl hkl' h)
  ·exact h
  ·exact absurd ((Option.some.inj hi').trans (Option.some.inj hi).symm) (hp k' k hkl' hkl h)
structure At (cx : Cx) (K : Xs → World → Prop) (e : Xs) (L : List Chunk) : Prop where
 out : ∀ w, Fr cx w → Sat cx w L → K e w
abbrev Jae := Exit → Xs → World → Prop
def lift (n : Nat) (Q : Jae) : Exit → Act → World → Prop := fun x a w => ∃ e, Sim n a e ∧ Q x e w
structure WC (P : Program) (n : Nat) (c : Code) (Q : Jae) (e : Xs) (w : World) : Prop where
 out : ∀ a, Sim n a e → c.wp P (lift n Q) a w
structure WL (P : Program) (n : Nat) (ops : Array Oper) (Q : Jae) (l : List Oper) (e : Xs) (w : World) : Prop where
 out : ∀ a, Sim n a e → wpList P ops (lift n Q) l a w
def ThenQ (K : Xs → World → Prop) (Q : Jae) : Jae
 | .normal, e, w => K e w
 | .exit i, e, w => Q (.exit i) e w
 | .goto l, e, w => Q (.goto l) e w
 | .ret, e, w => Q .ret e w
 | .panic c, e, w => Q (.panic c) e w
 | .outgrown, e, w => Q .outgrown e w
def BlockQ (id : Nat) (Q : Jae) : Jae
 | .normal, e, w => Q .normal e w
 | .exit i, e, w => bif Nat.beq i id then Q .normal e w else Q (.exit i) e w
 | .goto l, e, w => Q (.goto l) e w
 | .ret, e, w => Q .ret e w
 | .panic c, e, w => Q (.panic c) e w
 | .outgrown, e, w => Q .outgrown e w
section rules
variable {P : Program} {n : Nat} {cx : Cx} {Q : Jae} {e : Xs} {L : List Chunk}
theorem Jc {x y : Code} (h : At cx (WC P n x (ThenQ (WC P n y Q) Q)) e L) : At cx (WC P n (.seq x y) Q) e L :=
 ⟨fun w hF hS => ⟨fun a ha => wp_seq (Code.wp_mono (fun x' a' w' hq => by
  obtain ⟨e', hs, hq⟩ := hq
  cases x' <;> first | exact ⟨e', hs, hq⟩ | exact WC.out hq a' hs) ((h.out w hF hS).out a ha))⟩⟩
theorem Jp (h : At cx (Q .normal) e L) : At cx (WC P n .skip Q) e L :=
 ⟨fun w hF hS => ⟨fun _ ha => wp_skip ⟨e, ha, h.out w hF hS⟩⟩⟩
theorem Jr (h : At cx (Q .ret) e L) : At cx (WC P n .ret Q) e L :=
 ⟨fun w hF hS => ⟨fun _ ha => wp_ret ⟨e, ha, h.out w hF hS⟩⟩⟩
theorem Xy {id : Nat} (h : At cx (Q (.exit id)) e L) : At cx (WC P n (.exit id) Q) e L :=
 ⟨fun w hF hS => ⟨fun _ ha => wp_exit ⟨e, ha, h.out w hF hS⟩⟩⟩
theorem J0 {id : Nat} {c : Code} (h : At cx (WC P n c (BlockQ id Q)) e L) : At cx (WC P n (.block id c) Q) e L :=
 ⟨fun w hF hS => ⟨fun a ha => wp_block (Code.wp_mono (fun x' a' w' hq => by
  obtain ⟨e', hs, hq⟩ := hq
  cases x' with
  | exit i =>
   simp only [Exit.inBlock, lift]
   by_cases hi : i = id
   ·simp only [hi, if_true]
    have hb : Nat.beq id id = true := by simp
    have hq' : (bif Nat.beq i id then Q .normal e' w' else Q (.exit i) e' w') := hq
    rw [hi, hb] at hq'
    exact ⟨e', hs, hq'⟩
   ·have hb : Nat.beq i id = false := by simp [beq_eq, hi]
    have hq' : (bif Nat.beq i id then Q .normal e' w' else Q (.exit i) e' w') := hq
    rw [hb] at hq'
    simp only [hi, if_false]
    exact ⟨e', hs, hq'⟩
  | normal => exact ⟨e', hs, hq⟩
  | goto l => exact ⟨e', hs, hq⟩
  | ret => exact ⟨e', hs, hq⟩
  | panic c => exact ⟨e', hs, hq⟩
  | outgrown => exact ⟨e', hs, hq⟩) ((h.out w hF hS).out a ha))⟩⟩
theorem Jcx {c : Operand} {x y : Code} {b : Bool} (hc : ev e c = .bool b) (ht : b = true → At cx (WC P n x Q) e L) (hf : b = false → At cx (WC P n y Q) e L) :
  At cx (WC P n (.cond c x y) Q) e L :=
 ⟨fun w hF hS => ⟨fun a ha => wp_cond_split (by rw [ha.ev]; exact hc) (fun hb => ((ht hb).out w hF hS).out a ha) (fun hb => ((hf hb).out w hF hS).out a ha)⟩⟩
theorem Ve {c : Operand} {x y : Code} (hc : ev e c = .bool true) (ht : At cx (WC P n x Q) e L) : At cx (WC P n (.cond c x y) Q) e L :=
 Jcx hc (fun _ => ht) (fun h => by cases h)
theorem Wr {c : Operand} {x y : Code} (hc : ev e c = .bool false) (hf : At cx (WC P n y Q) e L) : At cx (WC P n (.cond c x y) Q) e L :=
 Jcx hc (fun h => by cases h) (fun _ => hf)
theorem Ja {id : Nat} {l : List Oper} (h : At cx (WL P n l.toArray Q l) e L) : At cx (WC P n (.region id l.toArray false) Q) e L :=
 ⟨fun w hF hS => ⟨fun a ha => wp_region_lit ((h.out w hF hS).out a ha)⟩⟩
theorem Jd {ops : Array Oper} (h : At cx (Q .normal) e L) : At cx (WL P n ops Q []) e L :=
 ⟨fun w hF hS => ⟨fun _ ha => wpList_nil ⟨e, ha, h.out w hF hS⟩⟩⟩
end rules
def Jei (P : Program) (fn : Func) (R : Value → World → Prop) : Jae
 | .normal, e, w | .ret, e, w => ∀ tmps : Array Value, (∀ t, tmps.getD t undef = e t) → ∃ v, (results fn tmps).run P w = .ok v w ∧ R v w
 | _, _, _ => False
def Does (P : Program) (f : FuncId) (args : Array Value) (w : World) (R : Value → World → Prop) : Prop :=
 Calls P f args w fun en w' => ∃ v, en = .returned v ∧ R v w'
theorem Does.mono {P : Program} {f : FuncId} {args : Array Value} {w : World} {R R' : Value → World → Prop} (h : Does P f args w R) (hr : ∀ v w', R v w' → R' v w') : Does P f args w R' :=
 Calls.mono h fun _ _ ⟨v, he, hv⟩ => ⟨v, he, hr _ _ hv⟩
theorem getD_args (args : List Value) (k t : Nat) : (args.toArray ++ Array.replicate k undef).getD t undef = lget args t := by
 rw [lget_eq, Array.getD_eq_getD_getElem?, Array.getElem?_append]
 split
 ·simp [List.getD_eq_getElem?_getD]
 ·rename_i h
  have h' : args.length ≤ t := by simpa using h
  rw [List.getD_eq_getElem?_getD, List.getElem?_eq_none h']
  rw [Array.getElem?_replicate]
  split <;> rfl
theorem enter {P : Program} {f : FuncId} {fn : Func} {c : Code} {args : List Value} {n : Nat} {w : World} {R : Value → World → Prop} (hf : P.funcs[f]? = some fn) (hb : fn.body = some c) (hn : fn.ntmps = n) (hle : Nat.ble args.length n = true)
  (S0 : Nat → Prop) (L : List Chunk) (hL : Sat ⟨w, S0⟩ w L) (h : At ⟨w, S0⟩ (WC P n c (Jei P fn R)) (lget args) L) : Does P f args.toArray w R := by
 refine calls_of_wp hf hb ?_
 refine Code.wp_mono ?_ ((h.out w (Fr.refl w S0) hL).out _ ⟨rfl, ?_, ?_⟩)
 ·rintro x a w' ⟨e, hs, hq⟩
  cases x with
  | normal =>
   obtain ⟨v, hr, hR⟩ := hq a.tmps hs.val
   exact ⟨hs.defers, v, hr, v, rfl, hR⟩
  | ret =>
   obtain ⟨v, hr, hR⟩ := hq a.tmps hs.val
   exact ⟨hs.defers, v, hr, v, rfl, hR⟩
  | exit i => exact hq.elim
  | goto i => exact hq.elim
  | panic i => exact hq.elim
  | outgrown => exact hq.elim
 ·have hle' : args.length ≤ n := by simpa using hle
  simp only [hn, Array.size_append, List.size_toArray, Array.size_replicate]
  omega
 ·intro t
  exact getD_args args _ t
end Go.Vc

namespace Go.Vc
open Go
def X1 (ops : Array Oper) (o : Oper) (e : Xs) : Bool :=
 match o.guard with
 | none => true
 | some (j, b) => match (ops[j]?).bind (·.dst) with
  | none => false
  | some d => match e d, b with
   | .bool true, b => b
   | .bool false, true => false
   | .bool false, false => true
   | _, _ => false
theorem Jdy {n : Nat} {a : Act} {e : Xs} (h : Sim n a e) (ops : Array Oper) (o : Oper) : Region.wanted o (yielded ops a.tmps) = X1 ops o e := by
 unfold Region.wanted X1
 cases hg : o.guard with
 | none => rfl
 | some jb =>
  obtain ⟨j, b⟩ := jb
  simp only [yielded]
  cases hd : (ops[j]?).bind (·.dst) with
  | none => rfl
  | some d =>
   simp only [Option.bind_some]
   have hv := h.val d
   rw [Array.getD_eq_getD_getElem?] at hv
   cases ht : a.tmps[d]? with
   | none =>
    rw [ht] at hv
    simp only [Option.getD_none] at hv
    rw [← hv]
    rfl
   | some v =>
    rw [ht] at hv
    simp only [Option.getD_some] at hv
    rw [← hv]
    cases v <;> first | rfl | (rename_i x; cases x <;> cases b <;> rfl)
section rules
variable {P : Program} {n : Nat} {cx : Cx} {Q : Jae} {e : Xs} {L : List Chunk} {ops : Array Oper} {rest : List Oper}
theorem U9 {o : Oper} {d : Nat} (hw : X1 ops o e = false) (hd : o.dst = some d) (hn : Nat.blt d n = true) (k : At cx (WL P n ops Q rest) (upd e d undef) L) : At cx (WL P n ops Q (o :: rest)) e L :=
 ⟨fun w hF hS => ⟨fun a ha => by
  unfold wpList
  rw [Jdy ha, hw]
  rw [hd]
  exact (k.out w hF hS).out _ (ha.put hn undef)⟩⟩
theorem Jci {o : Oper} {d : Nat} (hw : X1 ops o e = true) (hd : o.dst = some d) (hn : Nat.blt d n = true)
  (h : ∀ w, Fr cx w → Sat cx w L → ∃ v w', (execOp (ev e) o).run P w = .ok (.value v) w' ∧ WL P n ops Q rest (upd e d v) w') : At cx (WL P n ops Q (o :: rest)) e L :=
 ⟨fun w hF hS => ⟨fun a ha => by
  obtain ⟨v, w', hr, hk⟩ := h w hF hS
  unfold wpList
  rw [Jdy ha, hw, if_pos rfl]
  refine .inl ?_
  unfold Oper.wp
  rw [ha.ev, hr]
  show wpList P ops (lift n Q) rest (a.put o.dst v) w'
  rw [hd]
  exact hk.out _ (ha.put hn v)⟩⟩
theorem l_acts {o : Oper} (hw : X1 ops o e = true) (hd : o.dst = none)
  (h : ∀ w, Fr cx w → Sat cx w L → ∃ w', (execOp (ev e) o).run P w = .ok .skip w' ∧ WL P n ops Q rest e w') : At cx (WL P n ops Q (o :: rest)) e L :=
 ⟨fun w hF hS => ⟨fun a ha => by
  obtain ⟨w', hr, hk⟩ := h w hF hS
  unfold wpList
  rw [Jdy ha, hw, if_pos rfl]
  refine .inl ?_
  unfold Oper.wp
  rw [ha.ev, hr]
  show wpList P ops (lift n Q) rest (a.put o.dst undef) w'
  rw [hd]
  exact hk.out _ ha⟩⟩
theorem l_calls {o : Oper} {d : Nat} {f : FuncId} {args : Array Value} (hw : X1 ops o e = true) (hd : o.dst = some d) (hn : Nat.blt d n = true)
  (hr : ∀ w, (execOp (ev e) o).run P w = .ok (.enter f args) w)
  (h : ∀ w, Fr cx w → Sat cx w L → Does P f args w fun v w' => WL P n ops Q rest (upd e d v) w') : At cx (WL P n ops Q (o :: rest)) e L :=
 ⟨fun w hF hS => ⟨fun a ha => by
  unfold wpList
  rw [Jdy ha, hw, if_pos rfl]
  refine .inl ?_
  unfold Oper.wp
  rw [ha.ev, hr]
  show Calls P f args w _
  refine Calls.mono (h w hF hS) ?_
  rintro en w' ⟨v, rfl, hk⟩
  show wpList P ops (lift n Q) rest (a.put o.dst v) w'
  rw [hd]
  exact hk.out _ (ha.put hn v)⟩⟩
theorem Ju {o : Oper} {d : Nat} {v : Value} (hw : X1 ops o e = true) (hd : o.dst = some d) (hn : Nat.blt d n = true)
  (hr : ∀ w, (execOp (ev e) o).run P w = .ok (.value v) w) (k : At cx (WL P n ops Q rest) (upd e d v) L) : At cx (WL P n ops Q (o :: rest)) e L :=
 Jci hw hd hn fun w hF hS => ⟨v, w, hr w, k.out w hF hS⟩
section ops
variable {d : Option Nat} {ty : TypeId} {pos : String} {af : Array Edge} {g : Option (Nat × Bool)}
theorem Qi {X : Operand} {v : Value} (hx : ev e X = v) (w : World) :
  (execOp (ev e) ⟨d, .move X, ty, pos, af, g⟩).run P w = .ok (.value v) w :=
 by subst hx; rfl
theorem Jy {X : Operand} {v : Value} (hx : ev e X = v) (w : World) :
  (execOp (ev e) ⟨d, .assign X, ty, pos, af, g⟩).run P w = .ok (.value v) w :=
 by subst hx; rfl
theorem Jbz {c A B : Operand} {v : Value} (hc : ev e c = .bool true) (hx : ev e A = v) (w : World) :
  (execOp (ev e) ⟨d, .pick c A B, ty, pos, af, g⟩).run P w = .ok (.value v) w :=
 by subst hx; simp [execOp, hc, asBool]
theorem Jbj {c A B : Operand} {v : Value} (hc : ev e c = .bool false) (hx : ev e B = v) (w : World) :
  (execOp (ev e) ⟨d, .pick c A B, ty, pos, af, g⟩).run P w = .ok (.value v) w :=
 by subst hx; simp [execOp, hc, asBool]
theorem split {K : Xs → World → Prop} {b : Bool} {d : Nat} (ht : b = true → At cx K (upd e d (.bool true)) L) (hf : b = false → At cx K (upd e d (.bool false)) L) : At cx K (upd e d (.bool b)) L := by
 cases b
 ·exact hf rfl
 ·exact ht rfl
theorem Ja6 {X : Operand} {b : Bool} {t : TypeId} (hx : ev e X = .bool b) (w : World) :
  (execOp (ev e) ⟨d, .unOp .not t X, ty, pos, af, g⟩).run P w = .ok (.value (.bool (!b))) w :=
 by simp [execOp, hx, Op.unary]
section bin
variable {X Y : Operand} {x y : Int} {t t' : TypeId} {kd : IntKind}
theorem Ji9 (w : World) (op : BinOp) : (eqGuard op t X Y (.int kd x) (.int kd y)).run P w = .ok () w := by
 unfold eqGuard; cases op <;> rfl
theorem Jd1 {op : BinOp} {v : Value} (hx : ev e X = .int kd x) (hy : ev e Y = .int kd y)
  (hr : ∀ w, (binOp op t (.int kd x) (.int kd y)).run P w = .ok v w) (w : World) :
  (execOp (ev e) ⟨d, .binOp op t X Y t', ty, pos, af, g⟩).run P w = .ok (.value v) w :=
 by simp [execOp, hx, hy, Ji9, hr]
theorem r_add (hx : ev e X = .int .i64 x) (hy : ev e Y = .int .i64 y)
  (hr : -9223372036854775808 ≤ x + y ∧ x + y ≤ 9223372036854775807) (w : World) :
  (execOp (ev e) ⟨d, .binOp .add t X Y t', ty, pos, af, g⟩).run P w = .ok (.value (.int .i64 (x + y))) w :=
 Jd1 hx hy (fun w => by simp [binOp, Op.intArith, IntWalk.i64_in _ hr]) w
theorem r_sub (hx : ev e X = .int .i64 x) (hy : ev e Y = .int .i64 y)
  (hr : -9223372036854775808 ≤ x - y ∧ x - y ≤ 9223372036854775807) (w : World) :
  (execOp (ev e) ⟨d, .binOp .sub t X Y t', ty, pos, af, g⟩).run P w = .ok (.value (.int .i64 (x - y))) w :=
 Jd1 hx hy (fun w => by simp [binOp, Op.intArith, IntWalk.i64_in _ hr]) w
theorem r_mul (hx : ev e X = .int .i64 x) (hy : ev e Y = .int .i64 y)
  (hr : -9223372036854775808 ≤ x * y ∧ x * y ≤ 9223372036854775807) (w : World) :
  (execOp (ev e) ⟨d, .binOp .mul t X Y t', ty, pos, af, g⟩).run P w = .ok (.value (.int .i64 (x * y))) w :=
 Jd1 hx hy (fun w => by simp [binOp, Op.intArith, IntWalk.i64_in _ hr]) w
theorem r_rem (hx : ev e X = .int kd x) (hy : ev e Y = .int kd y)
  (hy0 : y ≠ 0) (w : World) :
  (execOp (ev e) ⟨d, .binOp .rem t X Y t', ty, pos, af, g⟩).run P w = .ok (.value (.int kd (x.tmod y))) w :=
 Jd1 hx hy (fun w => by simp [binOp, Op.intDiv, hy0]) w
theorem Ym (hx : ev e X = .int kd x) (hy : ev e Y = .int kd y) (w : World) :
  (execOp (ev e) ⟨d, .binOp .lss t X Y t', ty, pos, af, g⟩).run P w = .ok (.value (.bool (decide (x < y)))) w :=
 Jd1 hx hy (fun w => by simp [binOp, Op.intCmp]) w
theorem Je3 (hx : ev e X = .int kd x) (hy : ev e Y = .int kd y) (w : World) :
  (execOp (ev e) ⟨d, .binOp .leq t X Y t', ty, pos, af, g⟩).run P w = .ok (.value (.bool (decide (x ≤ y)))) w :=
 Jd1 hx hy (fun w => by simp [binOp, Op.intCmp]) w
theorem V6 (hx : ev e X = .int kd x) (hy : ev e Y = .int kd y) (w : World) :
  (execOp (ev e) ⟨d, .binOp .gtr t X Y t', ty, pos, af, g⟩).run P w = .ok (.value (.bool (decide (y < x)))) w :=
 Jd1 hx hy (fun w => by simp [binOp, Op.intCmp]) w
theorem r_geq (hx : ev e X = .int kd x) (hy : ev e Y = .int kd y) (w : World) :
  (execOp (ev e) ⟨d, .binOp .geq t X Y t', ty, pos, af, g⟩).run P w = .ok (.value (.bool (decide (y ≤ x)))) w :=
 Jd1 hx hy (fun w => by simp [binOp, Op.intCmp]) w
theorem Xe (hx : ev e X = .int kd x) (hy : ev e Y = .int kd y) (w : World) :
  (execOp (ev e) ⟨d, .binOp .eql t X Y t', ty, pos, af, g⟩).run P w = .ok (.value (.bool (decide (x = y)))) w :=
 Jd1 hx hy (fun w => by simp [binOp, Op.intCmp]; rfl) w
theorem Yn (hx : ev e X = .int kd x) (hy : ev e Y = .int kd y) (w : World) :
  (execOp (ev e) ⟨d, .binOp .neq t X Y t', ty, pos, af, g⟩).run P w = .ok (.value (.bool (decide (x ≠ y)))) w :=
 Jd1 hx hy (fun w => by simp [binOp, Op.intCmp, bne]; rfl) w
end bin
theorem J7 {X : Operand} {ix : Nat} {vs : Array Value} {v : Value} (hx : ev e X = .tuple vs) (hv : vs[ix]? = some v) (w : World) :
  (execOp (ev e) ⟨d, .extract X ix, ty, pos, af, g⟩).run P w = .ok (.value v) w :=
 by simp [execOp, hx, Instr.extract, hv]
theorem Xm {t : TypeId} {parts : Array (Nat × Operand)} {fs : Array Field} {pl : Array (Nat × Nat)} {z cells : Array Value} {ps : List (Nat × Value)}
  (hz : ∀ w, (zeroValue t).run P w = .ok (.agg z) w) (hu : ∀ w, (underlying t).run P w = .ok (.struct fs) w)
  (hpl : ∀ w, (fs.mapM fun f => do pure (f.offset, ← sizeOf f.type) : Sem (Array (Nat × Nat))).run P w = .ok pl w)
    
  (hps : parts.toList.map (fun (i, x) => (i, ev e x)) = ps) (hf : Instr.fill (pl[·]?) z ps = some cells) (w : World) :
  (execOp (ev e) ⟨d, .build t parts, ty, pos, af, g⟩).run P w = .ok (.value (.agg cells)) w :=
 by
  have hz' : (Value.agg z).cells = z := rfl
  have hps' : (parts.map fun (i, x) => (i, ev e x)).toList = ps := by rw [← hps, Array.toList_map]
  simp only [execOp, Instr.build, Sem.run_bind, hz, hu, Result.andThen_ok, hpl, hps', hz', hf, Sem.run_pure]
end ops
end rules
end Go.Vc

namespace Go.Vc
open Go
def Jf (b : Nat) (cs : List Value) (T : TypeId) : Chunk where
 P S w := (∀ x, S x ↔ x = b) ∧ w.heap[b]? = some (.cells cs.toArray T (0, 0))
 loc S w w' h hp := ⟨hp.1, by rw [h b ((hp.1 b).2 rfl)]; exact hp.2⟩
def rdn : List Value → Nat → Option (List Value)
 | _, 0 => some []
 | [], _ + 1 => none
 | v :: r, k + 1 => (rdn r k).map (v :: ·)
def rd : List Value → Nat → Nat → Option (List Value)
 | cs, 0, k => rdn cs k
 | [], _ + 1, k => rdn [] k
 | _ :: r, o + 1, k => rd r o k
def wrn : List Value → List Value → Option (List Value)
 | cs, [] => some cs
 | [], _ :: _ => none
 | _ :: r, v :: vs => (wrn r vs).map (v :: ·)
def wr : List Value → Nat → List Value → Option (List Value)
 | cs, 0, vs => wrn cs vs
 | [], _ + 1, [] => some []
 | [], _ + 1, _ :: _ => none
 | c :: r, o + 1, vs => (wr r o vs).map (c :: ·)
def rg : List Value → Nat → Option Value
 | [], _ => none
 | v :: _, 0 => some v
 | _ :: r, k + 1 => rg r k
theorem rg_eq : ∀ (cs : List Value) (k : Nat), rg cs k = cs[k]?
 | [], _ => by simp [rg]
 | v :: r, 0 => by simp [rg]
 | v :: r, k + 1 => by simp [rg, rg_eq r k]
theorem rdn_get {cs : List Value} : ∀ {k : Nat} {vs : List Value}, rdn cs k = some vs → vs.length = k ∧ ∀ (j : Nat) (v : Value), vs[j]? = some v → cs[j]? = some v := by
 induction cs with
 | nil => intro k vs h; cases k <;> simp [rdn] at h; subst h; exact ⟨rfl, by simp⟩
 | cons c r ih =>
  intro k vs h
  cases k with
  | zero => simp [rdn] at h; subst h; exact ⟨rfl, by simp⟩
  | succ k =>
   simp only [rdn, Option.map_eq_some_iff] at h
   obtain ⟨x, hx, rfl⟩ := h
   obtain ⟨h1, h2⟩ := ih hx
   refine ⟨by simp [h1], fun j v hv => ?_⟩
   cases j with
   | zero => simpa using hv
   | succ j => simp at hv ⊢; exact h2 j v hv
theorem Jg2 {cs : List Value} {o k : Nat} {vs : List Value} (h : rd cs o k = some vs) : vs.length = k ∧ ∀ (j : Nat) (v : Value), vs[j]? = some v → cs[o + j]? = some v := by
 induction cs generalizing o with
 | nil =>
  cases o with
  | zero => simpa using rdn_get h
  | succ o =>
   obtain ⟨h1, h2⟩ := rdn_get (cs := []) (by simpa [rd] using h)
   exact ⟨h1, fun j v hv => by have := h2 j v hv; simp at this⟩
 | cons c r ih =>
  cases o with
  | zero => simpa using rdn_get h
  | succ o =>
   obtain ⟨h1, h2⟩ := ih (o := o) (by simpa [rd] using h)
   exact ⟨h1, fun j v hv => by have := h2 j v hv; rw [show o + 1 + j = (o + j) + 1 from by omega]; simpa using this⟩
theorem wrn_eq {cs vs cs' : List Value} (h : wrn cs vs = some cs') : vs.length ≤ cs.length ∧ cs' = vs ++ cs.drop vs.length := by
 induction vs generalizing cs cs' with
 | nil => cases cs <;> simp [wrn] at h <;> subst h <;> simp
 | cons v vs ih =>
  cases cs with
  | nil => simp [wrn] at h
  | cons c r =>
   simp only [wrn, Option.map_eq_some_iff] at h
   obtain ⟨x, hx, rfl⟩ := h
   obtain ⟨h1, h2⟩ := ih hx
   exact ⟨by simp; omega, by simp [h2]⟩
theorem wr_eq {cs vs cs' : List Value} {o : Nat} (h : wr cs o vs = some cs') (hne : 0 < vs.length) : o + vs.length ≤ cs.length ∧ cs' = cs.take o ++ vs ++ cs.drop (o + vs.length) := by
 induction cs generalizing o cs' with
 | nil =>
  cases o with
  | zero => obtain ⟨h1, h2⟩ := wrn_eq (cs := []) (by simpa [wr] using h); simp at h1; simp [h1] at hne
  | succ o => cases vs <;> simp [wr] at h hne
 | cons c r ih =>
  cases o with
  | zero => obtain ⟨h1, h2⟩ := wrn_eq (cs := c :: r) (by simpa [wr] using h); exact ⟨by simpa using h1, by simp [h2]⟩
  | succ o =>
   simp only [wr, Option.map_eq_some_iff] at h
   obtain ⟨x, hx, rfl⟩ := h
   obtain ⟨h1, h2⟩ := ih hx
   refine ⟨by simp; omega, ?_⟩
   rw [show o + 1 + vs.length = (o + vs.length) + 1 from by omega]
   simp [h2]
theorem Uv (w : World) (o : Obj) : Grow w (w.alloc o) := Go.RowKit.Below.alloc (Go.RowKit.Below.refl _ _) (Nat.le_refl _) o
theorem Jfi {P : Program} (t : TypeId) (v : Value) (w : World) : (newVar t v).run P w = .ok ⟨w.heap.size, 0, none⟩ (w.alloc (.cells v.cells t)) := by
 simp [newVar, newRow, newObj, Sem.run]
section rules
variable {P : Program} {n : Nat} {cx : Cx} {Q : Jae} {e : Xs} {L : List Chunk} {ops : Array Oper} {rest : List Oper}
variable {d : Nat} {ty : TypeId} {pos : String} {af : Array Edge} {g : Option (Nat × Bool)}
theorem sat_new {w : World} (hF : Fr cx w) (hS : Sat cx w L) (cs : List Value) (T : TypeId) : Sat cx (w.alloc (.cells cs.toArray T)) (L ++ [Jf w.heap.size cs T]) :=
 hS.snoc hF (Uv w _) (S := fun x => x = w.heap.size) ⟨fun _ => Iff.rfl, heap_alloc_new w _⟩ (fun b hb => by subst hb; exact ⟨Nat.le_refl _, by simp⟩)
theorem We {T : TypeId} {X : Operand} {x : Value} {cs : List Value} (hw : X1 ops ⟨some d, .box T X, ty, pos, af, g⟩ e = true) (hn : Nat.blt d n = true) (hx : ev e X = x) (hc : x.cells.toList = cs)
  (k : ∀ b, At cx (WL P n ops Q rest) (upd e d (.pointer (some ⟨b, 0, none⟩))) (L ++ [Jf b cs T])) : At cx (WL P n ops Q (⟨some d, .box T X, ty, pos, af, g⟩ :: rest)) e L :=
 Jci hw rfl hn fun w hF hS => ⟨.pointer (some ⟨w.heap.size, 0, none⟩), w.alloc (.cells cs.toArray T), by
  subst hc
  simp [execOp, Instr.box, Jfi, hx], (k w.heap.size).out _ (hF.grow (Uv w _)) (sat_new hF hS cs T)⟩
theorem Xw {T : TypeId} {z : Value} {cs : List Value} (hz : ∀ w, (zeroValue T).run P w = .ok z w) (hc : z.cells.toList = cs) (hw : X1 ops ⟨some d, .alloc T, ty, pos, af, g⟩ e = true) (hn : Nat.blt d n = true)
  (k : ∀ b, At cx (WL P n ops Q rest) (upd e d (.pointer (some ⟨b, 0, none⟩))) (L ++ [Jf b cs T])) : At cx (WL P n ops Q (⟨some d, .alloc T, ty, pos, af, g⟩ :: rest)) e L :=
 Jci hw rfl hn fun w hF hS => ⟨.pointer (some ⟨w.heap.size, 0, none⟩), w.alloc (.cells cs.toArray T), by
  subst hc
  simp [execOp, Instr.alloc, hz, Jfi], (k w.heap.size).out _ (hF.grow (Uv w _)) (sat_new hF hS cs T)⟩
theorem Qp {w : World} {i b : Nat} {cs : List Value} {T : TypeId} (hS : Sat cx w L) (hL : L[i]? = some (Jf b cs T)) : w.heap[b]? = some (.cells cs.toArray T (0, 0)) := by
 obtain ⟨fp, h1, _, _⟩ := hS.out
 exact (h1 i _ hL).2
theorem Jb1 {w : World} {b o : Nat} {cs : List Value} {T : TypeId} (h : w.heap[b]? = some (.cells cs.toArray T (0, 0))) : w.cell? ⟨b, o, none⟩ = cs[o]? := by
 simp [World.cell?, h]
theorem V4 {T k b o : Nat} {vs : List Value} {w : World} (hA : ∀ w, (isAgg T).run P w = .ok true w) (hs : ∀ w, (sizeOf T).run P w = .ok k w) (hl : vs.length = k)
  (h : ∀ j v, vs[j]? = some v → w.cell? ⟨b, o + j, none⟩ = some v) : (loadVar T ⟨b, o, none⟩).run P w = .ok (.agg vs.toArray) w := by
 subst hl
 have := run_loadCells_list (P := P) (w := w) ⟨b, o, none⟩ vs (fun j v hv => by rw [Addr.add_lit]; exact h j v hv)
 simp [loadVar, hA, hs, this]
theorem Jaj {T b o : Nat} {v : Value} {w : World} (hA : ∀ w, (isAgg T).run P w = .ok false w) (h : w.cell? ⟨b, o, none⟩ = some v) : (loadVar T ⟨b, o, none⟩).run P w = .ok v w := by
 simp [loadVar, hA, Go.load, Sem.run, h]
theorem Je0 {i : Nat} {T T0 b o : Nat} {A : Operand} {cs : List Value} {v : Value} (hA : ∀ w, (isAgg T).run P w = .ok false w)
  (hw : X1 ops ⟨some d, .load T A, ty, pos, af, g⟩ e = true) (hn : Nat.blt d n = true) (hp : ev e A = .pointer (some ⟨b, o, none⟩)) (hL : L[i]? = some (Jf b cs T0)) (hv : rg cs o = some v)
  (k : At cx (WL P n ops Q rest) (upd e d v) L) : At cx (WL P n ops Q (⟨some d, .load T A, ty, pos, af, g⟩ :: rest)) e L :=
 Jci hw rfl hn fun w hF hS => ⟨v, w, by
  have hc := Jb1 (o := o) (Qp hS hL)
  rw [← rg_eq, hv] at hc
  simp [execOp, Instr.loadAt, Instr.sureAddr, hp, Jaj hA hc], k.out w hF hS⟩
theorem Q1 {i : Nat} {T T0 b o sz : Nat} {A : Operand} {cs vs : List Value} (hA : ∀ w, (isAgg T).run P w = .ok true w) (hs : ∀ w, (sizeOf T).run P w = .ok sz w)
  (hw : X1 ops ⟨some d, .load T A, ty, pos, af, g⟩ e = true) (hn : Nat.blt d n = true) (hp : ev e A = .pointer (some ⟨b, o, none⟩)) (hL : L[i]? = some (Jf b cs T0)) (hv : rd cs o sz = some vs)
  (k : At cx (WL P n ops Q rest) (upd e d (.agg vs.toArray)) L) : At cx (WL P n ops Q (⟨some d, .load T A, ty, pos, af, g⟩ :: rest)) e L :=
 Jci hw rfl hn fun w hF hS => ⟨.agg vs.toArray, w, by
  obtain ⟨h1, h2⟩ := Jg2 hv
  have hr := V4 (P := P) (w := w) (b := b) (o := o) hA hs h1 (fun j v hj => by rw [Jb1 (Qp hS hL)]; exact h2 j v hj)
  simp [execOp, Instr.loadAt, Instr.sureAddr, hp, hr], k.out w hF hS⟩
theorem Yq {i : Nat} {T T0 b o sz : Nat} {A X : Operand} {x : Value} {cs cs' vs : List Value} (hs : ∀ w, (sizeOf T).run P w = .ok sz w)
  (hw : X1 ops ⟨none, .store T A X, ty, pos, af, g⟩ e = true) (hp : ev e A = .pointer (some ⟨b, o, none⟩)) (hx : ev e X = x) (hc : x.cells.toList = vs) (hsz : vs.length = sz) (hpos : Nat.blt 0 sz = true)
  (hone : vs.all Value.oneCell' = true)
  (hL : L[i]? = some (Jf b cs T0)) (hv : wr cs o vs = some cs')
  (k : At cx (WL P n ops Q rest) e (L.set i (Jf b cs' T0))) : At cx (WL P n ops Q (⟨none, .store T A X, ty, pos, af, g⟩ :: rest)) e L :=
 l_acts hw rfl fun w hF hS => by
  have hb := Qp hS hL
  have hpos' : 0 < vs.length := by rw [hsz]; simpa using hpos
  obtain ⟨h1, h2⟩ := wr_eq hv hpos'
  have hst := run_storeCells_at P b o T0 vs 0 cs.toArray w hb (by simpa using h1) (by simpa using hone)
  refine ⟨w.setRow b cs'.toArray, ?_, ?_⟩
  ·have hsz' : x.cells.size = sz := by rw [← hsz, ← hc]; simp
   simp only [Nat.add_zero, List.append_assoc] at hst
   simp only [execOp, Instr.storeAt, Instr.sureAddr, storeVar, hp, hx, Sem.run_bind, Sem.run_pure, Result.andThen_ok, hs, hsz', ne_eq, not_true_eq_false, if_false, hc, hst]
   rw [h2]; simp
  ·have hset := setRow_heap w b cs.toArray cs'.toArray T0 (0, 0) hb
   refine k.out _ ⟨hF.os, hF.tape, hF.output, by simpa using hF.size, fun c hcn => ?_⟩ ?_
   ·rw [setRow_other w b c _ (fun e => ?_)]
    ·exact hF.block c hcn
    ·obtain ⟨fp, f1, f2, _⟩ := hS.out
     have := (f2 i b ((f1 i _ hL).1 b |>.2 rfl)).2.2
     subst e
     exact hcn this
   ·refine hS.set hF hL (by simp) fun S hSp hSo => ⟨S, ⟨hSp.1, hset⟩, fun c hc => ⟨by simpa using (hSo c hc).1, .inl hc⟩, fun c _ hcS => setRow_other w b c _ (fun e => hcS ((hSp.1 c).2 e))⟩
theorem Qd {d : Option Nat} {T fld b o fo ft fsz bo : Nat} {nm tg pk : String} {em : Bool} {X : Operand} {fs : Array Field} (hu : ∀ w, (underlying T).run P w = .ok (.struct fs) w)
  (hf : fs[fld]? = some ⟨nm, ft, fo, em, tg, pk, bo⟩) (hs : ∀ w, (sizeOf ft).run P w = .ok fsz w) (hsz : Nat.blt 0 fsz = true) (hp : ev e X = .pointer (some ⟨b, o, none⟩)) (w : World) :
  (execOp (ev e) ⟨d, .fieldAddr T X fld, ty, pos, af, g⟩).run P w = .ok (.value (.pointer (some ⟨b, o + fo, none⟩))) w := by
 have hne : fsz ≠ 0 := by have : 0 < fsz := by simpa using hsz
                          omega
 simp [execOp, Instr.fieldAt, hu, hf, Instr.sureAddr, hp, fieldPlace, hs, hne, Addr.add_lit]
def Ret (P : Program) (f : FuncId) (args : List Value) (v : Value) : Prop := ∀ w, Does P f args.toArray w fun v' w' => v' = v ∧ Grow w w'
theorem Jbo {f : FuncId} {A : Array Operand} {tys : Array TypeId} {args : List Value} (hc : ∀ args w, (callFunc f args).run P w = .ok (.enter f args) w) (ha : A.toList.map (ev e) = args) (w : World) :
  (execOp (ev e) ⟨some d, .call ⟨.value (.func f), A, tys⟩, ty, pos, af, g⟩).run P w = .ok (.enter f args.toArray) w := by
 subst ha
 have : (A.toList.map (ev e)).toArray = A.map (ev e) := by rw [← Array.toList_map, Array.toArray_toList]
 rw [this]
 simp only [execOp, resolve, ev, Deferred.ofValue, Sem.run_bind, Sem.run_pure, Result.andThen_ok, invoke, hc, Array.append_empty, Array.empty_append]
theorem Vb {f : FuncId} {A : Array Operand} {tys : Array TypeId} {args : List Value} {v : Value} (h : Ret P f args v) (hc : ∀ args w, (callFunc f args).run P w = .ok (.enter f args) w)
  (hw : X1 ops ⟨some d, .call ⟨.value (.func f), A, tys⟩, ty, pos, af, g⟩ e = true) (hn : Nat.blt d n = true) (ha : A.toList.map (ev e) = args)
  (k : At cx (WL P n ops Q rest) (upd e d v) L) : At cx (WL P n ops Q (⟨some d, .call ⟨.value (.func f), A, tys⟩, ty, pos, af, g⟩ :: rest)) e L :=
 l_calls hw rfl hn (Jbo hc ha) fun w hF hS => (h w).mono fun v' w' ⟨hv, hg⟩ => by
  subst hv
  exact k.out w' (hF.grow hg) (hS.grow hg)
theorem results_one {fn : Func} {t : Tmp} (h : fn.results = #[.tmp t]) (tmps : Array Value) (w : World) : (results fn tmps).run P w = .ok (tmps.getD t undef) w := by
 simp [results, h]
theorem results_two {fn : Func} {t u : Tmp} (h : fn.results = #[.tmp t, .tmp u]) (tmps : Array Value) (w : World) : (results fn tmps).run P w = .ok (.tuple #[tmps.getD t undef, tmps.getD u undef]) w := by
 simp [results, h]
theorem Jbw {fn : Func} {R : Value → World → Prop} {t : Tmp} {v : Value} (hr : fn.results = #[.tmp t]) (ht : e t = v) (k : ∀ w, Fr cx w → Sat cx w L → R v w) : At cx (Jei P fn R .ret) e L :=
 ⟨fun w hF hS tmps hs => ⟨v, by rw [results_one hr, hs, ht], k w hF hS⟩⟩
theorem Jah {fn : Func} {R : Value → World → Prop} {t u : Tmp} {v1 v2 : Value} (hr : fn.results = #[.tmp t, .tmp u]) (h1 : e t = v1) (h2 : e u = v2) (k : ∀ w, Fr cx w → Sat cx w L → R (.tuple #[v1, v2]) w) : At cx (Jei P fn R .ret) e L :=
 ⟨fun w hF hS tmps hs => ⟨.tuple #[v1, v2], by rw [results_two hr, hs, hs, h1, h2], k w hF hS⟩⟩
theorem Jja {fn : Func} {t T b : Nat} {v : Value} (h : fn.results = #[.cell t T]) (tmps : Array Value) (w : World) (ht : tmps.getD t undef = .pointer (some ⟨b, 0, none⟩)) (hl : (loadVar T ⟨b, 0, none⟩).run P w = .ok v w) :
  (results fn tmps).run P w = .ok v w := by
 rw [Array.getD_eq_getD_getElem?] at ht
 simp [results, h, ht, asAddr, hl]
theorem Jim {fn : Func} {t T b u : Nat} {v : Value} (h : fn.results = #[.cell t T, .tmp u]) (tmps : Array Value) (w : World) (ht : tmps.getD t undef = .pointer (some ⟨b, 0, none⟩)) (hl : (loadVar T ⟨b, 0, none⟩).run P w = .ok v w) :
  (results fn tmps).run P w = .ok (.tuple #[v, tmps.getD u undef]) w := by
 rw [Array.getD_eq_getD_getElem?] at ht
 simp [results, h, ht, asAddr, hl]
theorem retC {i : Nat} {fn : Func} {R : Value → World → Prop} {t T T0 b sz : Nat} {cs vs : List Value} (hA : ∀ w, (isAgg T).run P w = .ok true w) (hs : ∀ w, (sizeOf T).run P w = .ok sz w) (hr : fn.results = #[.cell t T])
  (ht : e t = .pointer (some ⟨b, 0, none⟩)) (hL : L[i]? = some (Jf b cs T0)) (hv : rd cs 0 sz = some vs) (k : ∀ w, Fr cx w → Sat cx w L → R (.agg vs.toArray) w) : At cx (Jei P fn R .ret) e L :=
 ⟨fun w hF hS tmps hts => ⟨.agg vs.toArray, by
  obtain ⟨h1, h2⟩ := Jg2 hv
  have hl := V4 (P := P) (w := w) (b := b) (o := 0) hA hs h1 (fun j v hj => by rw [Jb1 (Qp hS hL)]; exact h2 j v hj)
  exact Jja hr tmps w (by rw [hts, ht]) hl, k w hF hS⟩⟩
theorem retCt {i : Nat} {fn : Func} {R : Value → World → Prop} {t T T0 b sz u : Nat} {cs vs : List Value} {v2 : Value} (hA : ∀ w, (isAgg T).run P w = .ok true w) (hs : ∀ w, (sizeOf T).run P w = .ok sz w) (hr : fn.results = #[.cell t T, .tmp u])
  (ht : e t = .pointer (some ⟨b, 0, none⟩)) (hL : L[i]? = some (Jf b cs T0)) (hv : rd cs 0 sz = some vs) (h2 : e u = v2) (k : ∀ w, Fr cx w → Sat cx w L → R (.tuple #[.agg vs.toArray, v2]) w) : At cx (Jei P fn R .ret) e L :=
 ⟨fun w hF hS tmps hts => ⟨.tuple #[.agg vs.toArray, v2], by
  obtain ⟨h1, h2'⟩ := Jg2 hv
  have hl := V4 (P := P) (w := w) (b := b) (o := 0) hA hs h1 (fun j v hj => by rw [Jb1 (Qp hS hL)]; exact h2' j v hj)
  rw [Jim hr tmps w (by rw [hts, ht]) hl, hts, h2], k w hF hS⟩⟩
theorem fin {w0 : World} {L : List Chunk} {v v' : Value} (h : v' = v) : ∀ w, Fr ⟨w0, fun _ => False⟩ w → Sat ⟨w0, fun _ => False⟩ w L → (v' = v ∧ Grow w0 w) :=
 fun w hF _ => ⟨h, hF.os, hF.tape, hF.output, hF.size, fun k hk => hF.block k (by simp [Cx.own]; exact hk)⟩
theorem Vz {f : FuncId} {fn : Func} {c : Code} {args : List Value} {v : Value} (hf : P.funcs[f]? = some fn) (hb : fn.body = some c) (hn : fn.ntmps = n) (hle : Nat.ble args.length n = true)
  (h : ∀ w, At ⟨w, fun _ => False⟩ (WC P n c (Jei P fn fun v' w' => v' = v ∧ Grow w w')) (lget args) []) : Ret P f args v :=
 fun w => enter hf hb hn hle (fun _ => False) [] (Sat.nil _ _) (h w)
def mkE : List (Nat × Value) → Xs → Xs
 | [], g => g
 | (a, v) :: r, g => fun t => bif Nat.beq t a then v else mkE r g t
def Jgf (e : Xs) : List (Nat × Value) → Prop
 | [] => True
 | (a, v) :: r => e a = v ∧ Jgf e r
theorem Jii (e : Xs) : ∀ l, Jgf e l → mkE l e = e
 | [], _ => rfl
 | (a, v) :: r, ⟨h, hr⟩ => by
  funext t
  simp only [mkE, beq_eq, Jii e r hr]
  by_cases ht : t = a
  ·simp [ht, h]
  ·simp [ht]
structure RoundEnd {σ : Type} (cx : Cx) (st : σ → List (Nat × Value)) (hp : σ → List Chunk) (I : σ → Prop) (m : Nat) (μ : σ → Nat) (e : Xs) (w : World) : Prop where
 out : ∃ s, Jgf e (st s) ∧ Fr cx w ∧ Sat cx w (hp s) ∧ I s ∧ μ s < m
end rules
end Go.Vc

namespace Go.Vc
open Go
inductive Kd where
 | p
 | g (rs rds wrs : List Nat) (V : List Value → List (Option Chunk) → Value → Prop) (T : List Value → List (Option Chunk) → Value → List Chunk)
def Kd.d (rds : List Nat) (v0 : Value) : Kd := .g [] rds [] (fun _ _ v => v = v0) (fun _ _ _ => [])
abbrev Look := Nat → Option Chunk
def look (L : List Chunk) : Look := fun i => L[i]?
def Kd.rs : Kd → List Nat | .p => [] | .g rs _ _ _ _ => rs
def Kd.rds : Kd → List Nat | .p => [] | .g _ rds _ _ _ => rds
def Kd.wrs : Kd → List Nat | .p => [] | .g _ _ wrs _ _ => wrs
def Kd.V (P : Program) (o : Oper) (s : Kd) (e : Xs) (l : Look) (v : Value) : Prop :=
 match s with
 | .p => ∀ w, (execOp (ev e) o).run P w = .ok (.value v) w
 | .g rs rds _ V _ => V (rs.map e) (rds.map l) v
def Kd.T (s : Kd) (e : Xs) (l : Look) (v : Value) : List (Nat × Chunk) :=
 match s with
 | .p => []
 | .g rs rds wrs _ T => wrs.zip (T (rs.map e) (rds.map l) v)
def Vr (L : List Chunk) : List (Nat × Chunk) → List Chunk
 | [] => L
 | (i, c) :: r => Vr (L.set i c) r
def Vq (e : Xs) (d : Option Nat) (v : Value) : Xs := match d with | some d => upd e d v | none => e
def RunsTo (P : Program) (ρ : Operand → Value) (o : Oper) (w : World) (R : Value → World → Prop) : Prop :=
 match (execOp ρ o).run P w with
 | .ok (.value v) w' => R v w'
 | .ok .skip w' => R undef w'
 | .ok (.enter f args) w' => Does P f args w' R
 | _ => False
theorem RunsTo.mono {P : Program} {ρ : Operand → Value} {o : Oper} {w : World} {R R' : Value → World → Prop} (h : RunsTo P ρ o w R) (hr : ∀ v w', R v w' → R' v w') : RunsTo P ρ o w R' := by
 unfold RunsTo at *
 generalize (execOp ρ o).run P w = r at *
 cases r with
 | halt x w' => exact h
 | ok nx w' =>
  cases nx <;> first | exact hr _ _ h | exact Does.mono h hr | exact h
structure LV (P : Program) (cx : Cx) (o : Oper) (s : Kd) (e : Xs) (L : List Chunk) : Prop where
 out : ∀ (w : World) (L' : List Chunk), Fr cx w → Sat cx w L' → L'.length = L.length → (∀ i, i ∈ s.rds ∨ i ∈ s.wrs → L'[i]? = L[i]?) →
  RunsTo P (ev e) o w (fun v w' => s.V P o e (look L) v ∧ Fr cx w' ∧ Sat cx w' (Vr L' (s.T e (look L) v)))
inductive Sq (P : Program) (cx : Cx) (ops : Array Oper) (F : Xs → List Chunk → Prop) : List Oper → List Kd → Xs → List Chunk → Prop
 | nil {e : Xs} {L : List Chunk} (h : F e L) : Sq P cx ops F [] [] e L
 | pass {o : Oper} {os : List Oper} {s : Kd} {ss : List Kd} {e : Xs} {L : List Chunk} (hw : X1 ops o e = false) (h : Sq P cx ops F os ss (Vq e o.dst undef) L) : Sq P cx ops F (o :: os) (s :: ss) e L
 | take {o : Oper} {os : List Oper} {s : Kd} {ss : List Kd} {e : Xs} {L : List Chunk} (hw : X1 ops o e = true) (hi : ∃ v, s.V P o e (look L) v) (hl : LV P cx o s e L)
   (h : ∀ v, s.V P o e (look L) v → Sq P cx ops F os ss (Vq e o.dst v) (Vr L (s.T e (look L) v))) : Sq P cx ops F (o :: os) (s :: ss) e L
def binding (o : Oper) (i : Nat) : Bool := o.after.toList.any fun x => Region.binds .any x && Nat.beq x.on i
def Je9 (l : List Oper) : Nat → Nat → Nat → Bool
 | 0, _, _ => false
 | f + 1, k, i =>
  match l[k]? with
  | none => false
  | some o => binding o i || o.after.toList.any fun x => Region.binds .any x && Je9 l f x.on i
def Jgd (a b : List Nat) : Bool := a.any fun x => b.any fun y => Nat.beq x y
def Jby (ops : Array Oper) (o1 o2 : Oper) (s1 s2 : Kd) : Bool :=
 Jgd o1.dst.toList (o2.looksAt ops) || Jgd o1.dst.toList o2.dst.toList || Jgd o2.dst.toList (o1.looksAt ops) ||
 Jgd s1.wrs s2.rds || Jgd s1.wrs s2.wrs || Jgd s1.rds s2.wrs
def subs (a b : List Nat) : Bool := a.all fun x => b.any fun y => Nat.beq x y
def checkD (n : Nat) (l : List Oper) (sp : List Kd) : Bool :=
 Nat.beq l.length sp.length && Region.noSelect l.toArray &&
 (List.range l.length).all fun k =>
  match l[k]?, sp[k]? with
  | some o, some s =>
   (o.after.toList.all fun x => !Region.binds .any x || Nat.blt x.on k) && (o.dst.all fun d => Nat.blt d n) && subs s.rs (o.looksAt l.toArray) &&
   (List.range k).all fun i =>
    match l[i]?, sp[i]? with
    | some o1, some s1 => !Jby l.toArray o1 o s1 s || Je9 l 3 k i
    | _, _ => false
  | _, _ => false
theorem Jcl {a b : List Nat} {x : Nat} (ha : x ∈ a) (hb : x ∈ b) : Jgd a b = true := by
 unfold Jgd
 rw [List.any_eq_true]
 exact ⟨x, ha, List.any_eq_true.2 ⟨x, hb, by simp⟩⟩
section sound
variable {P : Program} {n : Nat} {cx : Cx} {Q : Jae} {l : List Oper} {sp : List Kd} {e0 : Xs} {L0 : List Chunk}
def od (l : List Oper) (k : Nat) : Oper := l.getD k default
def sd (sp : List Kd) (k : Nat) : Kd := sp.getD k .p
def EL (P : Program) (l : List Oper) (sp : List Kd) (e0 : Xs) (L0 : List Chunk) (S : Nat → Bool) (val : Nat → Value) : Nat → Xs × List Chunk
 | 0 => (e0, L0)
 | k + 1 =>
  let x := EL P l sp e0 L0 S val k
  if S k then (Vq x.1 (od l k).dst (val k), if X1 l.toArray (od l k) x.1 = true then Vr x.2 ((sd sp k).T x.1 (look x.2) (val k)) else x.2) else x
structure Ok (n : Nat) (l : List Oper) (sp : List Kd) : Prop where
 len : l.length = sp.length
 nosel : Region.noSelect l.toArray = true
 back : ∀ k x, k < l.length → x ∈ (od l k).after.toList → Region.binds .any x = true → x.on < k
 dst : ∀ k d, k < l.length → (od l k).dst = some d → Nat.blt d n = true
 rs : ∀ k t, k < l.length → t ∈ (sd sp k).rs → t ∈ (od l k).looksAt l.toArray
 ord : ∀ k i, k < l.length → i < k → Jby l.toArray (od l i) (od l k) (sd sp i) (sd sp k) = true → Je9 l 3 k i = true
theorem ok_of (h : checkD n l sp = true) : Ok n l sp := by
 unfold checkD at h
 simp only [Bool.and_eq_true, List.all_eq_true, List.mem_range] at h
 obtain ⟨⟨h1, h2⟩, h3⟩ := h
 have hlen : l.length = sp.length := by simpa using h1
 have key : ∀ k, k < l.length → l[k]? = some (od l k) ∧ sp[k]? = some (sd sp k) := by
  intro k hk
  have hk' : k < sp.length := by omega
  exact ⟨by simp [od, List.getD_eq_getElem?_getD, List.getElem?_eq_getElem hk], by simp [sd, List.getD_eq_getElem?_getD, List.getElem?_eq_getElem hk']⟩
 have h4 : ∀ k, k < l.length → _ := fun k hk => by
  have := h3 k hk
  rw [(key k hk).1, (key k hk).2] at this
  simp only [Bool.and_eq_true, List.all_eq_true, List.mem_range] at this
  exact this
 refine ⟨hlen, h2, ?_, ?_, ?_, ?_⟩
 ·intro k x hk hx hb
  have := (h4 k hk).1.1.1
  have := this x hx
  simpa [hb] using this
 ·intro k d hk hd
  have := (h4 k hk).1.1.2
  rw [hd] at this
  simpa using this
 ·intro k t hk ht
  have := (h4 k hk).1.2
  unfold subs at this
  rw [List.all_eq_true] at this
  obtain ⟨y, hy, hyt⟩ := List.any_eq_true.1 (this t ht)
  have : t = y := by simpa using hyt
  rw [this]; exact hy
 ·intro k i hk hi hc
  have := (h4 k hk).2 i hi
  rw [(key i (by omega)).1, (key i (by omega)).2] at this
  simpa [hc] using this
def Jhh (l : List Oper) (S : Nat → Prop) (k : Nat) : Prop := ∀ x ∈ (od l k).after.toList, Region.binds .any x = true → S x.on
theorem reach_in (S : Nat → Prop) (hS : ∀ k, k < l.length → S k → Jhh l S k) (hb : ∀ k x, k < l.length → x ∈ (od l k).after.toList → Region.binds .any x = true → x.on < k) :
  ∀ f k i, k < l.length → Jhh l S k → Je9 l f k i = true → S i := by
 intro f
 induction f with
 | zero => intro k i _ _ h; simp [Je9] at h
 | succ f ih =>
  intro k i hk hc h
  have hlk : l[k]? = some (od l k) := by simp [od, List.getD_eq_getElem?_getD, List.getElem?_eq_getElem hk]
  simp only [Je9, hlk, Bool.or_eq_true] at h
  rcases h with h | h
  ·unfold binding at h
   rw [List.any_eq_true] at h
   obtain ⟨x, hx, hxb⟩ := h
   simp only [Bool.and_eq_true] at hxb
   have : x.on = i := by simpa using hxb.2
   rw [← this]
   exact hc x hx hxb.1
  ·rw [List.any_eq_true] at h
   obtain ⟨x, hx, hxb⟩ := h
   simp only [Bool.and_eq_true] at hxb
   have hlt := hb k x hk hx hxb.1
   exact ih x.on i (by omega) (hS x.on (by omega) (hc x hx hxb.1)) hxb.2
theorem Jcz (T : List (Nat × Chunk)) : ∀ L : List Chunk, (Vr L T).length = L.length := by
 induction T with
 | nil => intro L; rfl
 | cons p T ih => intro L; obtain ⟨i, c⟩ := p; simp [Vr, ih]
theorem Wd (T : List (Nat × Chunk)) : ∀ (L : List Chunk) (i : Nat), (∀ p ∈ T, p.1 ≠ i) → (Vr L T)[i]? = L[i]? := by
 induction T with
 | nil => intro L i _; rfl
 | cons p T ih =>
  intro L i h
  obtain ⟨j, c⟩ := p
  simp only [Vr]
  rw [ih _ i (fun p hp => h p (List.mem_cons_of_mem _ hp)), List.getElem?_set_ne]
  exact h (j, c) (List.mem_cons_self ..)
theorem Jef (T : List (Nat × Chunk)) : ∀ (L L' : List Chunk) (i : Nat), L.length = L'.length → L[i]? = L'[i]? → (Vr L T)[i]? = (Vr L' T)[i]? := by
 induction T with
 | nil => intro L L' i _ h; exact h
 | cons p T ih =>
  intro L L' i hl h
  obtain ⟨j, c⟩ := p
  simp only [Vr]
  refine ih _ _ i (by simp [hl]) ?_
  by_cases hji : j = i
  ·subst hji
   rw [List.getElem?_set, List.getElem?_set, if_pos rfl, if_pos rfl, hl]
  ·rw [List.getElem?_set_ne hji, List.getElem?_set_ne hji, h]
theorem T_in (s : Kd) (e : Xs) (lk : Look) (v : Value) : ∀ p ∈ s.T e lk v, p.1 ∈ s.wrs := by
 intro p hp
 cases s with
 | p => simp [Kd.T] at hp
 | g rs rds wrs V T =>
  simp only [Kd.T] at hp
  exact (List.of_mem_zip (a := p.1) (b := p.2) hp).1
theorem T_loc (s : Kd) {e e' : Xs} {lk lk' : Look} (h1 : ∀ t ∈ s.rs, e t = e' t) (h2 : ∀ i ∈ s.rds, lk i = lk' i) (v : Value) : s.T e lk v = s.T e' lk' v := by
 cases s with
 | p => rfl
 | g rs rds wrs V T =>
  have h1' : rs.map e = rs.map e' := List.map_congr_left h1
  have h2' : rds.map lk = rds.map lk' := List.map_congr_left h2
  simp only [Kd.T, h1', h2']
theorem ev_loc {e e' : Xs} {o : Oper} (hs : ∀ cs b, o.op ≠ .select cs b) {ops : Array Oper} (h : ∀ t ∈ o.looksAt ops, e t = e' t) : execOp (ev e) o = execOp (ev e') o := by
 refine execOp_congr o hs fun x hx => ?_
 cases x with
 | tmp t => exact h t (List.mem_append_left _ (List.mem_filterMap.2 ⟨.tmp t, by simpa using hx, rfl⟩))
 | const v => rfl
 | global g => rfl
 | func f => rfl
theorem V_loc {o : Oper} (s : Kd) (hs : ∀ cs b, o.op ≠ .select cs b) {ops : Array Oper} {e e' : Xs} {lk lk' : Look} (h : ∀ t ∈ o.looksAt ops, e t = e' t) (h1 : ∀ t ∈ s.rs, e t = e' t) (h2 : ∀ i ∈ s.rds, lk i = lk' i) (v : Value) :
  s.V P o e lk v = s.V P o e' lk' v := by
 cases s with
 | p => simp only [Kd.V]; rw [ev_loc hs h]
 | g rs rds wrs V T =>
  have h1' : rs.map e = rs.map e' := List.map_congr_left h1
  have h2' : rds.map lk = rds.map lk' := List.map_congr_left h2
  simp only [Kd.V, h1', h2']
theorem V_locL {o : Oper} (s : Kd) (hs : ∀ cs b, o.op ≠ .select cs b) {ops : Array Oper} {e e' : Xs} {L L' : List Chunk} (h : ∀ t ∈ o.looksAt ops, e t = e' t) (h1 : ∀ t ∈ s.rs, e t = e' t) (h2 : ∀ i ∈ s.rds, L[i]? = L'[i]?) (v : Value) :
  s.V P o e (look L) v = s.V P o e' (look L') v := V_loc s hs h h1 h2 v
theorem Jca {o : Oper} {ops : Array Oper} {e e' : Xs} (h : ∀ t ∈ o.looksAt ops, e t = e' t) : X1 ops o e = X1 ops o e' := by
 unfold X1
 cases hg : o.guard with
 | none => rfl
 | some jb =>
  obtain ⟨j, b⟩ := jb
  simp only
  cases hd : (ops[j]?).bind (·.dst) with
  | none => rfl
  | some d =>
   have : e d = e' d := h d (by unfold Oper.looksAt; rw [hg]; exact List.mem_append_right _ (by simp [hd]))
   simp only [this]
theorem Jg3 {e e' : Xs} {t : Nat} (d : Option Nat) (v : Value) (h : d ≠ some t → e t = e' t) : Vq e d v t = Vq e' d v t := by
 cases d with
 | none => exact h (by simp)
 | some d =>
  by_cases ht : t = d
  ·subst ht; simp [Vq, upd_same]
  ·simp only [Vq]; rw [upd_ne _ _ _ _ ht, upd_ne _ _ _ _ ht]; exact h (by simpa using fun h => ht h.symm)
theorem Jao {e : Xs} {t : Nat} {d : Option Nat} (v : Value) (h : d ≠ some t) : Vq e d v t = e t := by
 cases d with
 | none => rfl
 | some d => simp only [Vq]; exact upd_ne _ _ _ _ (by simpa using fun h' => h (by rw [h']))
theorem Jew (S : Nat → Bool) (val : Nat → Value) : ∀ k, (EL P l sp e0 L0 S val k).2.length = L0.length := by
 intro k
 induction k with
 | zero => rfl
 | succ k ih =>
  simp only [EL]
  split
  ·split
   ·simp [Jcz, ih]
   ·exact ih
  ·exact ih
theorem Jit {ops : Array Oper} {o1 o2 : Oper} {s1 s2 : Kd} {t : Nat} (h1 : o1.dst = some t) (h2 : t ∈ o2.looksAt ops) : Jby ops o1 o2 s1 s2 = true := by
 unfold Jby; rw [Jcl (a := o1.dst.toList) (x := t) (by simp [h1]) h2]; rfl
theorem clash_dd {ops : Array Oper} {o1 o2 : Oper} {s1 s2 : Kd} {t : Nat} (h1 : o1.dst = some t) (h2 : o2.dst = some t) : Jby ops o1 o2 s1 s2 = true := by
 unfold Jby; rw [Jcl (a := o1.dst.toList) (b := o2.dst.toList) (x := t) (by simp [h1]) (by simp [h2])]; simp
theorem clash_ld {ops : Array Oper} {o1 o2 : Oper} {s1 s2 : Kd} {t : Nat} (h1 : t ∈ o1.looksAt ops) (h2 : o2.dst = some t) : Jby ops o1 o2 s1 s2 = true := by
 unfold Jby; rw [Jcl (a := o2.dst.toList) (x := t) (by simp [h2]) h1]; simp
theorem Jgb {ops : Array Oper} {o1 o2 : Oper} {s1 s2 : Kd} {i : Nat} (h1 : i ∈ s1.wrs) (h2 : i ∈ s2.rds ∨ i ∈ s2.wrs) : Jby ops o1 o2 s1 s2 = true := by
 unfold Jby
 rcases h2 with h2 | h2
 ·rw [Jcl h1 h2]; simp
 ·rw [Jcl (a := s1.wrs) (b := s2.wrs) h1 h2]; simp
theorem clash_rw {ops : Array Oper} {o1 o2 : Oper} {s1 s2 : Kd} {i : Nat} (h1 : i ∈ s1.rds ∨ i ∈ s1.wrs) (h2 : i ∈ s2.wrs) : Jby ops o1 o2 s1 s2 = true := by
 unfold Jby
 rcases h1 with h1 | h1
 ·rw [Jcl (a := s1.rds) (b := s2.wrs) h1 h2]; simp
 ·rw [Jcl (a := s1.wrs) (b := s2.wrs) h1 h2]; simp
theorem EL_agree (ok : Ok n l sp) {S S' : Nat → Bool} {val val' : Nat → Value} :
  ∀ k, k < l.length → (∀ i, i < k → Je9 l 3 k i = true → S i ∧ S' i ∧ val i = val' i) →
   (∀ i, i < k → S i → S' i → val i = val' i ∧
    ((∀ t ∈ (od l i).looksAt l.toArray, (EL P l sp e0 L0 S val i).1 t = (EL P l sp e0 L0 S' val' i).1 t) ∧
     (∀ r, r ∈ (sd sp i).rds ∨ r ∈ (sd sp i).wrs → (EL P l sp e0 L0 S val i).2[r]? = (EL P l sp e0 L0 S' val' i).2[r]?))) →
   ∀ j, j ≤ k → (∀ t ∈ (od l k).looksAt l.toArray, (EL P l sp e0 L0 S val j).1 t = (EL P l sp e0 L0 S' val' j).1 t) ∧
    (∀ r, r ∈ (sd sp k).rds ∨ r ∈ (sd sp k).wrs → (EL P l sp e0 L0 S val j).2[r]? = (EL P l sp e0 L0 S' val' j).2[r]?) := by
 intro k hk hcl hin j
 induction j with
 | zero => intro _; exact ⟨fun _ _ => rfl, fun _ _ => rfl⟩
 | succ j ih =>
  intro hj
  obtain ⟨ih1, ih2⟩ := ih (by omega)
  by_cases hb : S j ∧ S' j
  ·obtain ⟨hv, hl1, hl2⟩ := hin j (by omega) hb.1 hb.2
   have hw : X1 l.toArray (od l j) (EL P l sp e0 L0 S val j).1 = X1 l.toArray (od l j) (EL P l sp e0 L0 S' val' j).1 := Jca hl1
   have hT : (sd sp j).T (EL P l sp e0 L0 S val j).1 (look (EL P l sp e0 L0 S val j).2) (val j) = (sd sp j).T (EL P l sp e0 L0 S' val' j).1 (look (EL P l sp e0 L0 S' val' j).2) (val' j) := by
    rw [hv]
    exact T_loc _ (fun t ht => hl1 t (ok.rs j t (by omega) ht)) (fun i hi => hl2 i (.inl hi)) _
   simp only [EL, if_pos hb.1, if_pos hb.2]
   refine ⟨fun t ht => ?_, fun r hr => ?_⟩
   ·rw [hv]; exact Jg3 _ _ (fun _ => ih1 t ht)
   ·rw [hw, hT]
    split
    ·exact Jef _ _ _ r (by rw [Jew, Jew]) (ih2 r hr)
    ·exact ih2 r hr
  ·have hnr : ¬ Je9 l 3 k j = true := fun hr => hb ⟨(hcl j (by omega) hr).1, (hcl j (by omega) hr).2.1⟩
   have hnc : ¬ Jby l.toArray (od l j) (od l k) (sd sp j) (sd sp k) = true := fun hc => hnr (ok.ord k j hk (by omega) hc)
   have one : ∀ (X : Nat → Bool) (va : Nat → Value), (∀ t ∈ (od l k).looksAt l.toArray, (EL P l sp e0 L0 X va (j + 1)).1 t = (EL P l sp e0 L0 X va j).1 t) ∧
     (∀ r, r ∈ (sd sp k).rds ∨ r ∈ (sd sp k).wrs → (EL P l sp e0 L0 X va (j + 1)).2[r]? = (EL P l sp e0 L0 X va j).2[r]?) := by
    intro X va
    simp only [EL]
    split
    ·refine ⟨fun t ht => ?_, fun r hr => ?_⟩
     ·exact Jao _ (fun hd => hnc (Jit hd ht))
     ·split
      ·exact Wd _ _ r (fun p hp hpr => hnc (Jgb (by rw [← hpr]; exact T_in _ _ _ _ p hp) hr))
      ·rfl
    ·exact ⟨fun _ _ => rfl, fun _ _ => rfl⟩
   refine ⟨fun t ht => ?_, fun r hr => ?_⟩
   ·rw [(one S val).1 t ht, (one S' val').1 t ht]; exact ih1 t ht
   ·rw [(one S val).2 r hr, (one S' val').2 r hr]; exact ih2 r hr
def Sc (l : List Oper) (S : Nat → Bool) : Prop := ∀ k, k < l.length → S k = true → Jhh l (fun i => S i = true) k
theorem U5 (ok : Ok n l sp) {S : Nat → Bool} (hS : Sc l S) {k i : Nat} (hk : k < l.length) (hc : Jhh l (fun i => S i = true) k) (h : Je9 l 3 k i = true) : S i = true :=
 reach_in (fun i => S i = true) (fun k hk h => hS k hk h) ok.back 3 k i hk hc h
theorem agree_all (ok : Ok n l sp) {S S' : Nat → Bool} {val val' : Nat → Value} (hS : Sc l S) (hS' : ∀ i, S i = true → S' i = true) (hv : ∀ i, S i = true → val i = val' i) :
  ∀ k, k < l.length → Jhh l (fun i => S i = true) k → (∀ t ∈ (od l k).looksAt l.toArray, (EL P l sp e0 L0 S val k).1 t = (EL P l sp e0 L0 S' val' k).1 t) ∧
    (∀ r, r ∈ (sd sp k).rds ∨ r ∈ (sd sp k).wrs → (EL P l sp e0 L0 S val k).2[r]? = (EL P l sp e0 L0 S' val' k).2[r]?) := by
 intro k
 induction k using Nat.strongRecOn with
 | _ k ih =>
  intro hk hc
  exact EL_agree ok k hk (fun i hi hr => ⟨U5 ok hS hk hc hr, hS' i (U5 ok hS hk hc hr), hv i (U5 ok hS hk hc hr)⟩)
   (fun i hi hs _ => ⟨hv i hs, ih i hi (by omega) (hS i (by omega) hs)⟩) k (Nat.le_refl _)
theorem EL_congr (S : Nat → Bool) {val val' : Nat → Value} : ∀ k, (∀ i, i < k → val i = val' i) → EL P l sp e0 L0 S val k = EL P l sp e0 L0 S val' k := by
 intro k
 induction k with
 | zero => intro _; rfl
 | succ k ih =>
  intro h
  simp only [EL]
  rw [ih (fun i hi => h i (by omega)), h k (by omega)]
def Cons (P : Program) (l : List Oper) (sp : List Kd) (e0 : Xs) (L0 : List Chunk) (S : Nat → Bool) (val : Nat → Value) (k : Nat) : Prop :=
 ∀ j, j < k → S j = true → if X1 l.toArray (od l j) (EL P l sp e0 L0 S val j).1 = true then (sd sp j).V P (od l j) (EL P l sp e0 L0 S val j).1 (look (EL P l sp e0 L0 S val j).2) (val j) else val j = undef
def full : Nat → Bool := fun _ => true
theorem drop_od {k : Nat} (hk : k < l.length) : l.drop k = od l k :: l.drop (k + 1) := by
 rw [List.drop_eq_getElem_cons hk]; simp [od, List.getD_eq_getElem?_getD, List.getElem?_eq_getElem hk]
theorem drop_sd {k : Nat} (hk : k < sp.length) : sp.drop k = sd sp k :: sp.drop (k + 1) := by
 rw [List.drop_eq_getElem_cons hk]; simp [sd, List.getD_eq_getElem?_getD, List.getElem?_eq_getElem hk]
theorem sq_at (ok : Ok n l sp) {F : Xs → List Chunk → Prop} (h : Sq P cx l.toArray F l sp e0 L0) : ∀ k, k ≤ l.length → ∀ val, Cons P l sp e0 L0 full val k →
  Sq P cx l.toArray F (l.drop k) (sp.drop k) (EL P l sp e0 L0 full val k).1 (EL P l sp e0 L0 full val k).2 := by
 intro k
 induction k with
 | zero => intro _ _ _; simpa [EL] using h
 | succ k ih =>
  intro hk val hc
  have h0 := ih (by omega) val (fun j hj => hc j (by omega))
  rw [drop_od (by omega), drop_sd (by have := ok.len; omega)] at h0
  have hck := hc k (by omega) rfl
  simp only [EL, full, if_true]
  cases h0 with
  | pass hw h1 =>
   rw [if_neg (by rw [hw]; simp)] at hck
   rw [if_neg (by rw [hw]; simp), hck]
   exact h1
  | take hw hi hl h1 =>
   rw [if_pos hw] at hck
   rw [if_pos hw]
   exact h1 _ hck
theorem fill (ok : Ok n l sp) {F : Xs → List Chunk → Prop} (h : Sq P cx l.toArray F l sp e0 L0) {S : Nat → Bool} {val : Nat → Value} (hS : Sc l S) (hc : Cons P l sp e0 L0 S val l.length) :
  ∀ k, k ≤ l.length → ∃ val', (∀ i, S i = true → val' i = val i) ∧ Cons P l sp e0 L0 full val' k := by
 intro k
 induction k with
 | zero => intro _; exact ⟨val, fun _ _ => rfl, fun j hj => by omega⟩
 | succ k ih =>
  intro hk
  obtain ⟨val', hv, hcf⟩ := ih (by omega)
  by_cases hSk : S k = true
  ·refine ⟨val', hv, fun j hj hf => ?_⟩
   by_cases hjk : j = k
   ·subst hjk
    have hj' := hc j (by omega) hSk
    obtain ⟨a1, a2⟩ := agree_all (P := P) (e0 := e0) (L0 := L0) ok (S' := full) (val' := val') hS (fun _ _ => rfl) (fun i hi => (hv i hi).symm) j (by omega) (hS j (by omega) hSk)
    rw [← Jca (ops := l.toArray) a1, hv j hSk]
    split
    ·rename_i hw
     rw [if_pos hw] at hj'
     rw [← V_loc (lk := look (EL P l sp e0 L0 S val j).2) (lk' := look (EL P l sp e0 L0 full val' j).2) (sd sp j) (Region.noSelect_spec ok.nosel j _ · · (by simp [od, List.getD_eq_getElem?_getD, List.getElem?_eq_getElem (show j < l.length by omega)])) (ops := l.toArray) a1 (fun t ht => a1 t (ok.rs j t (by omega) ht)) (fun i hi => a2 i (.inl hi))]
     exact hj'
    ·rename_i hw
     rw [if_neg hw] at hj'
     exact hj'
   ·exact hcf j (by omega) hf
  ·have h0 := sq_at ok h k (by omega) val' hcf
   rw [drop_od (by omega), drop_sd (by have := ok.len; omega)] at h0
   have fin : ∀ v : Value, (if X1 l.toArray (od l k) (EL P l sp e0 L0 full val' k).1 = true then (sd sp k).V P (od l k) (EL P l sp e0 L0 full val' k).1 (look (EL P l sp e0 L0 full val' k).2) v else v = undef) →
     ∃ val'', (∀ i, S i = true → val'' i = val i) ∧ Cons P l sp e0 L0 full val'' (k + 1) := by
    intro v hvv
    refine ⟨fun i => if i = k then v else val' i, fun i hi => ?_, fun j hj hf => ?_⟩
    ·have : i ≠ k := fun e => hSk (by rw [← e]; exact hi)
     simp [this, hv i hi]
    ·have he : EL P l sp e0 L0 full (fun i => if i = k then v else val' i) j = EL P l sp e0 L0 full val' j := EL_congr full j (fun i hi => by
      have : i ≠ k := by omega
      simp [this])
     rw [he]
     by_cases hjk : j = k
     ·subst hjk
      simpa using hvv
     ·simp only [hjk, if_false]
      exact hcf j (by omega) hf
   cases h0 with
   | pass hw h1 => exact fin undef (by rw [if_neg (by rw [hw]; simp)])
   | take hw hi hl h1 =>
    obtain ⟨v, hv'⟩ := hi
    exact fin v (by rw [if_pos hw]; exact hv')
theorem tail_agree (ok : Ok n l sp) {S : Nat → Bool} {val : Nat → Value} (hS : Sc l S) {k : Nat} (hSk : S k = false) :
  ∀ j, k ≤ j → j ≤ l.length → (∀ t ∈ (od l k).looksAt l.toArray, (EL P l sp e0 L0 S val j).1 t = (EL P l sp e0 L0 S val k).1 t) ∧
    (∀ r, r ∈ (sd sp k).rds ∨ r ∈ (sd sp k).wrs → (EL P l sp e0 L0 S val j).2[r]? = (EL P l sp e0 L0 S val k).2[r]?) := by
 intro j hj
 obtain ⟨d, rfl⟩ := Nat.exists_eq_add_of_le hj
 clear hj
 induction d with
 | zero => intro _; exact ⟨fun _ _ => rfl, fun _ _ => rfl⟩
 | succ d ih =>
  intro hjl
  obtain ⟨a1, a2⟩ := ih (by omega)
  rw [show k + (d + 1) = (k + d) + 1 from rfl] at *
  generalize hjd : k + d = j at *
  have hj : k ≤ j := by omega
  simp only [EL]
  by_cases hSj : S j = true
  ·have hjk : k < j := by
    rcases Nat.lt_or_ge k j with h | h
    ·exact h
    ·have : j = k := by omega
     rw [this, hSk] at hSj; cases hSj
   have hnc : ¬ Jby l.toArray (od l k) (od l j) (sd sp k) (sd sp j) = true := fun hc => by
    have := U5 ok hS (by omega) (hS j (by omega) hSj) (ok.ord j k (by omega) hjk hc)
    rw [hSk] at this; cases this
   rw [if_pos hSj]
   refine ⟨fun t ht => ?_, fun r hr => ?_⟩
   ·rw [← a1 t ht]
    exact Jao _ (fun hd => hnc (clash_ld ht hd))
   ·rw [← a2 r hr]
    show (if _ then _ else _)[r]? = _
    split
    ·exact Wd _ _ r (fun p hp hpr => hnc (clash_rw hr (by rw [← hpr]; exact T_in _ _ _ _ p hp)))
    ·rfl
  ·rw [if_neg hSj]
   exact ⟨a1, a2⟩
theorem putD_comm {e : Xs} {d1 d2 : Option Nat} {v1 v2 : Value} (h : ∀ t, d1 = some t → d2 ≠ some t) : Vq (Vq e d1 v1) d2 v2 = Vq (Vq e d2 v2) d1 v1 := by
 funext t
 by_cases h1 : d1 = some t
 ·have h2 := h t h1
  subst h1
  rw [Jao _ h2]
  exact Jg3 _ _ (fun hh => absurd rfl hh)
 ·rw [Jao (d := d1) _ h1]
  exact Jg3 _ _ (fun _ => Jao _ h1)
theorem setAll_comm (A B : List (Nat × Chunk)) (L : List Chunk) (h : ∀ p ∈ A, ∀ q ∈ B, p.1 ≠ q.1) : Vr (Vr L A) B = Vr (Vr L B) A := by
 apply List.ext_getElem?
 intro i
 by_cases hA : ∃ p ∈ A, p.1 = i
 ·obtain ⟨p, hp, hpi⟩ := hA
  rw [Wd B _ i (fun q hq hqi => h p hp q hq (by omega))]
  exact Jef A _ _ i (by simp [Jcz]) (Wd B _ i (fun q hq hqi => h p hp q hq (by omega))).symm
 ·have hA' : ∀ p ∈ A, p.1 ≠ i := fun p hp hpi => hA ⟨p, hp, hpi⟩
  rw [Wd A _ i hA']
  exact Jef B _ _ i (by simp [Jcz]) (Wd A _ i hA')
def Wo (S : Nat → Bool) (k : Nat) : Nat → Bool := fun i => if i = k then true else S i
def Jc5 (val : Nat → Value) (k : Nat) (v : Value) : Nat → Value := fun i => if i = k then v else val i
theorem Jio (S : Nat → Bool) (val : Nat → Value) (k : Nat) (v : Value) : ∀ j, j ≤ k → EL P l sp e0 L0 (Wo S k) (Jc5 val k v) j = EL P l sp e0 L0 S val j := by
 intro j
 induction j with
 | zero => intro _; rfl
 | succ j ih =>
  intro hj
  have hjk : j ≠ k := by omega
  simp only [EL, ih (by omega), Wo, Jc5, hjk, if_false]
theorem EL_step (ok : Ok n l sp) {S : Nat → Bool} {val : Nat → Value} (hS : Sc l S) {k : Nat} (hSk : S k = false) (v : Value) :
  ∀ j, k + 1 ≤ j → j ≤ l.length → EL P l sp e0 L0 (Wo S k) (Jc5 val k v) j =
   (Vq (EL P l sp e0 L0 S val j).1 (od l k).dst v, if X1 l.toArray (od l k) (EL P l sp e0 L0 S val k).1 = true then Vr (EL P l sp e0 L0 S val j).2 ((sd sp k).T (EL P l sp e0 L0 S val k).1 (look (EL P l sp e0 L0 S val k).2) v) else (EL P l sp e0 L0 S val j).2) := by
 intro j hj
 obtain ⟨d, rfl⟩ := Nat.exists_eq_add_of_le hj
 clear hj
 induction d with
 | zero =>
  intro _
  have h1 : EL P l sp e0 L0 (Wo S k) (Jc5 val k v) (k + 1) = _ := rfl
  rw [h1]
  simp only [EL, Jio S val k v k (Nat.le_refl _), Wo, Jc5, if_true, hSk]
  rfl
 | succ d ih =>
  intro hjl
  have ih := ih (by omega)
  rw [show k + 1 + (d + 1) = (k + 1 + d) + 1 from rfl] at *
  generalize hjd : k + 1 + d = j at *
  have hjk : j ≠ k := by omega
  by_cases hSj : S j = true
  ·have hnc : ¬ Jby l.toArray (od l k) (od l j) (sd sp k) (sd sp j) = true := fun hc => by
    have := U5 ok hS (by omega) (hS j (by omega) hSj) (ok.ord j k (by omega) (by omega) hc)
    rw [hSk] at this; cases this
   have e1 : ∀ t ∈ (od l j).looksAt l.toArray, Vq (EL P l sp e0 L0 S val j).1 (od l k).dst v t = (EL P l sp e0 L0 S val j).1 t :=
    fun t ht => Jao _ (fun hd => hnc (Jit hd ht))
   have e2 : ∀ r, r ∈ (sd sp j).rds ∨ r ∈ (sd sp j).wrs → (if X1 l.toArray (od l k) (EL P l sp e0 L0 S val k).1 = true then Vr (EL P l sp e0 L0 S val j).2 ((sd sp k).T (EL P l sp e0 L0 S val k).1 (look (EL P l sp e0 L0 S val k).2) v) else (EL P l sp e0 L0 S val j).2)[r]? = (EL P l sp e0 L0 S val j).2[r]? := by
    intro r hr
    split
    ·exact Wd _ _ r (fun p hp hpr => hnc (Jgb (by rw [← hpr]; exact T_in _ _ _ _ p hp) hr))
    ·rfl
   have hT := T_loc (sd sp j) (e := Vq (EL P l sp e0 L0 S val j).1 (od l k).dst v) (e' := (EL P l sp e0 L0 S val j).1)
    (lk := look (if X1 l.toArray (od l k) (EL P l sp e0 L0 S val k).1 = true then Vr (EL P l sp e0 L0 S val j).2 ((sd sp k).T (EL P l sp e0 L0 S val k).1 (look (EL P l sp e0 L0 S val k).2) v) else (EL P l sp e0 L0 S val j).2)) (lk' := look (EL P l sp e0 L0 S val j).2)
    (fun t ht => e1 t (ok.rs j t (by omega) ht)) (fun i hi => e2 i (.inl hi)) (val j)
   have hw := Jca (ops := l.toArray) e1
   have h1 : EL P l sp e0 L0 (Wo S k) (Jc5 val k v) (j + 1) = (Vq (EL P l sp e0 L0 (Wo S k) (Jc5 val k v) j).1 (od l j).dst (val j), if X1 l.toArray (od l j) (EL P l sp e0 L0 (Wo S k) (Jc5 val k v) j).1 = true then Vr (EL P l sp e0 L0 (Wo S k) (Jc5 val k v) j).2 ((sd sp j).T (EL P l sp e0 L0 (Wo S k) (Jc5 val k v) j).1 (look (EL P l sp e0 L0 (Wo S k) (Jc5 val k v) j).2) (val j)) else (EL P l sp e0 L0 (Wo S k) (Jc5 val k v) j).2) := by
    simp [EL, Wo, Jc5, hjk, hSj]
   have h2 : EL P l sp e0 L0 S val (j + 1) = (Vq (EL P l sp e0 L0 S val j).1 (od l j).dst (val j), if X1 l.toArray (od l j) (EL P l sp e0 L0 S val j).1 = true then Vr (EL P l sp e0 L0 S val j).2 ((sd sp j).T (EL P l sp e0 L0 S val j).1 (look (EL P l sp e0 L0 S val j).2) (val j)) else (EL P l sp e0 L0 S val j).2) := by
    simp [EL, hSj]
   rw [h1, h2, ih]
   simp only
   rw [hw, hT]
   refine Prod.ext ?_ ?_
   ·exact putD_comm (fun t ht1 ht2 => hnc (clash_dd ht1 ht2))
   ·show (if _ then _ else _) = (if _ then _ else _)
    by_cases hwj : X1 l.toArray (od l j) (EL P l sp e0 L0 S val j).1 = true <;> by_cases hwk : X1 l.toArray (od l k) (EL P l sp e0 L0 S val k).1 = true
    ·simp only [hwj, hwk, if_true]
     exact setAll_comm _ _ _ (fun p hp q hq hpq => hnc (Jgb (T_in _ _ _ _ p hp) (.inr (by rw [hpq]; exact T_in _ _ _ _ q hq))))
    ·simp only [hwj, hwk, if_true]; rfl
    ·simp only [hwj, hwk, if_true]; rfl
    ·simp only [hwj, hwk]; rfl
  ·have h1 : EL P l sp e0 L0 (Wo S k) (Jc5 val k v) (j + 1) = EL P l sp e0 L0 (Wo S k) (Jc5 val k v) j := by
    simp [EL, Wo, hjk, hSj]
   have h2 : EL P l sp e0 L0 S val (j + 1) = EL P l sp e0 L0 S val j := by simp [EL, hSj]
   rw [h1, h2, ih]
def Xh (listed : Array Bool) : Nat → Bool := fun k => listed.getD k false
theorem cons_step (ok : Ok n l sp) {S : Nat → Bool} {val : Nat → Value} (hS : Sc l S) {k : Nat} (hk : k < l.length) (hSk : S k = false) (hc : Cons P l sp e0 L0 S val l.length) {v : Value}
  (hv : if X1 l.toArray (od l k) (EL P l sp e0 L0 S val k).1 = true then (sd sp k).V P (od l k) (EL P l sp e0 L0 S val k).1 (look (EL P l sp e0 L0 S val k).2) v else v = undef) :
  Cons P l sp e0 L0 (Wo S k) (Jc5 val k v) l.length := by
 intro j hj hSj
 by_cases hjk : j = k
 ·subst hjk
  rw [Jio S val j v j (Nat.le_refl _)]
  simpa [Jc5] using hv
 ·have hSj' : S j = true := by simpa [Wo, hjk] using hSj
  have hcj := hc j hj hSj'
  have hval : Jc5 val k v j = val j := by simp [Jc5, hjk]
  rw [hval]
  by_cases hlt : j < k
  ·rw [Jio S val k v j (by omega)]
   exact hcj
  ·have hkj : k < j := by omega
   have hnc : ¬ Jby l.toArray (od l k) (od l j) (sd sp k) (sd sp j) = true := fun hh => by
    have := U5 ok hS hj (hS j hj hSj') (ok.ord j k hj hkj hh)
    rw [hSk] at this; cases this
   rw [EL_step ok hS hSk v j (by omega) (by omega)]
   have e1 : ∀ t ∈ (od l j).looksAt l.toArray, Vq (EL P l sp e0 L0 S val j).1 (od l k).dst v t = (EL P l sp e0 L0 S val j).1 t :=
    fun t ht => Jao _ (fun hd => hnc (Jit hd ht))
   have e2 : ∀ r, r ∈ (sd sp j).rds ∨ r ∈ (sd sp j).wrs → (if X1 l.toArray (od l k) (EL P l sp e0 L0 S val k).1 = true then Vr (EL P l sp e0 L0 S val j).2 ((sd sp k).T (EL P l sp e0 L0 S val k).1 (look (EL P l sp e0 L0 S val k).2) v) else (EL P l sp e0 L0 S val j).2)[r]? = (EL P l sp e0 L0 S val j).2[r]? := by
    intro r hr
    split
    ·exact Wd _ _ r (fun p hp hpr => hnc (Jgb (by rw [← hpr]; exact T_in _ _ _ _ p hp) hr))
    ·rfl
   simp only
   rw [Jca (ops := l.toArray) e1]
   split
   ·rename_i hw
    rw [if_pos hw] at hcj
    rw [V_locL (L' := (EL P l sp e0 L0 S val j).2) (sd sp j) (Region.noSelect_spec ok.nosel j _ · · (by simp [od, List.getD_eq_getElem?_getD, List.getElem?_eq_getElem hj])) (ops := l.toArray) e1 (fun t ht => e1 t (ok.rs j t hj ht)) (fun i hi => e2 i (.inl hi))]
    exact hcj
   ·rename_i hw
    rw [if_neg hw] at hcj
    exact hcj
theorem ready_mem {md : Region.Mode} {ops : Array Oper} {listed : Array Bool} {k : Nat} (h : k ∈ Region.ready md ops listed) :
  k < ops.size ∧ listed.getD k true = false ∧ ∃ o, ops[k]? = some o ∧ ∀ x ∈ o.after.toList, Region.binds md x = true → listed.getD x.on false = true := by
 unfold Region.ready at h
 rw [List.mem_filter] at h
 obtain ⟨h1, h2⟩ := h
 rw [List.mem_range] at h1
 simp only [Bool.and_eq_true, Bool.not_eq_true'] at h2
 obtain ⟨h2, h3⟩ := h2
 refine ⟨h1, h2, ops[k], Array.getElem?_eq_getElem h1, fun x hx hb => ?_⟩
 rw [Array.getElem?_eq_getElem h1] at h3
 simp only [Option.map_some, Option.getD_some] at h3
 have := Array.all_eq_true_iff_forall_mem.1 h3 x (by simpa using hx)
 simpa [hb] using this
theorem any_of (ok : Ok n l sp) (h : Sq P cx l.toArray (fun e L => At cx (Q .normal) e L) l sp e0 L0) : ∀ (fuel : Nat) (listed : Array Bool) (a : Act) (w : World) (val : Nat → Value), listed.size = l.length →
  Sc l (Xh listed) → Cons P l sp e0 L0 (Xh listed) val l.length →
  ((List.range l.length).filter fun k => !Xh listed k).length ≤ fuel →
  Sim n a (EL P l sp e0 L0 (Xh listed) val l.length).1 → Fr cx w → Sat cx w (EL P l sp e0 L0 (Xh listed) val l.length).2 →
  wpAny P .any l.toArray (lift n Q) fuel listed a w := by
 have final : ∀ (listed : Array Bool) (a : Act) (w : World) (val : Nat → Value), (∀ k, k < l.length → Xh listed k = true) → Cons P l sp e0 L0 (Xh listed) val l.length →
   Sim n a (EL P l sp e0 L0 (Xh listed) val l.length).1 → Fr cx w → Sat cx w (EL P l sp e0 L0 (Xh listed) val l.length).2 → lift n Q .normal a w := by
  intro listed a w val hall hc hs hF hS
  have he : ∀ k, k ≤ l.length → EL P l sp e0 L0 (Xh listed) val k = EL P l sp e0 L0 full val k := by
   intro k
   induction k with
   | zero => intro _; rfl
   | succ k ih => intro hk; simp only [EL, ih (by omega), hall k (by omega), full]
  have hcf : Cons P l sp e0 L0 full val l.length := fun j hj hf => by
   have := hc j hj (hall j hj)
   rwa [he j (by omega)] at this
  have h0 := sq_at ok h l.length (Nat.le_refl _) val hcf
  rw [List.drop_length, ok.len, List.drop_length, ← ok.len] at h0
  cases h0 with
  | nil hh =>
   rw [← he _ (Nat.le_refl _)] at hh
   exact ⟨_, hs, hh.out w hF hS⟩
 have ready_all : ∀ (listed : Array Bool), listed.size = l.length → Region.ready .any l.toArray listed = [] → ∀ k, k < l.length → Xh listed k = true := by
  intro listed hsz hr k
  induction k using Nat.strongRecOn with
  | _ k ih =>
   intro hk
   rcases Bool.eq_false_or_eq_true (Xh listed k) with hh | hh
   ·exact hh
   ·exfalso
    have : k ∈ Region.ready .any l.toArray listed := by
     unfold Region.ready
     rw [List.mem_filter]
     refine ⟨by simpa using hk, ?_⟩
     have hg : listed.getD k true = false := by
      have hh' : listed.getD k false = false := hh
      rw [Array.getD_eq_getD_getElem?, Array.getElem?_eq_getElem (by omega)] at hh' ⊢
      simpa using hh'
     have hok : l.toArray[k]? = some (od l k) := by simp [od, List.getD_eq_getElem?_getD, List.getElem?_eq_getElem hk]
     simp only [hg, Bool.not_false, Bool.true_and, hok, Option.map_some, Option.getD_some]
     rw [Array.all_eq_true_iff_forall_mem]
     intro x hx
     by_cases hb : Region.binds .any x = true
     ·have hlt := ok.back k x hk (by simpa using hx) hb
      have := ih x.on hlt (by omega)
      simp only [hb, Bool.not_true, Bool.false_or]
      exact this
     ·simp only [Bool.not_eq_true] at hb
      simp [hb]
    rw [hr] at this
    cases this
 intro fuel
 induction fuel with
 | zero =>
  intro listed a w val hsz hSc hc hcount hs hF hS
  have hall : ∀ k, k < l.length → Xh listed k = true := by
   intro k hk
   have h0 : (List.range l.length).filter (fun k => !Xh listed k) = [] := List.eq_nil_of_length_eq_zero (by omega)
   rw [List.filter_eq_nil_iff] at h0
   simpa using h0 k (by simpa using hk)
  refine ⟨?_, final listed a w val hall hc hs hF hS⟩
  cases hr : Region.ready .any l.toArray listed with
  | nil => rfl
  | cons x xs =>
   exfalso
   obtain ⟨h1, h2, _⟩ := ready_mem (md := .any) (ops := l.toArray) (listed := listed) (k := x) (by rw [hr]; simp)
   have h1' : x < l.length := by simpa using h1
   have := hall x h1'
   unfold Xh at this
   rw [Array.getD_eq_getD_getElem?, Array.getElem?_eq_getElem (by omega)] at this h2
   simp at this h2
   rw [this] at h2
   cases h2
 | succ fuel ih =>
  intro listed a w val hsz hSc hc hcount hs hF hS
  refine ⟨fun hr => final listed a w val (ready_all listed hsz hr) hc hs hF hS, fun k hk => ?_⟩
  obtain ⟨h1, h2, o, ho, hafter⟩ := ready_mem hk
  have hkl : k < l.length := by simpa using h1
  have hoe : o = od l k := by
   have : l[k]? = some o := by simpa using ho
   simp [od, List.getD_eq_getElem?_getD, this]
  subst hoe
  have hSk : Xh listed k = false := by
   unfold Xh
   rw [Array.getD_eq_getD_getElem?, Array.getElem?_eq_getElem (by omega)] at h2 ⊢
   simpa using h2
  have hclk : Jhh l (fun i => Xh listed i = true) k := fun x hx hb => hafter x hx hb
  obtain ⟨val', hv, hcf⟩ := fill ok h hSc hc k (by omega)
  have h0 := sq_at ok h k (by omega) val' hcf
  rw [drop_od hkl, drop_sd (by have := ok.len; omega)] at h0
  obtain ⟨a1, a2⟩ := agree_all (P := P) (e0 := e0) (L0 := L0) ok (S' := full) (val' := val') hSc (fun _ _ => rfl) (fun i hi => (hv i hi).symm) k hkl hclk
  obtain ⟨b1, b2⟩ := tail_agree (P := P) (e0 := e0) (L0 := L0) (val := val) ok hSc hSk l.length (by omega) (Nat.le_refl _)
  have hsel : ∀ cs b, (od l k).op ≠ .select cs b := (Region.noSelect_spec ok.nosel k _ · · (by simpa using ho))
  have hSn : Xh (listed.setIfInBounds k true) = Wo (Xh listed) k := by
   funext i
   unfold Xh Wo
   simp only [Array.getD_eq_getD_getElem?, Array.getElem?_setIfInBounds]
   by_cases hik : i = k
   ·subst hik; simp [show i < listed.size by omega]
   ·have : ¬ k = i := fun e => hik e.symm
    simp [hik, this]
  have hScn : Sc l (Wo (Xh listed) k) := by
   intro j hj hSj x hx hb
   by_cases hjk : j = k
   ·subst hjk
    have := hclk x hx hb
    simp only [Wo]
    split
    ·rfl
    ·exact this
   ·have hSj' : Xh listed j = true := by simpa [Wo, hjk] using hSj
    have := hSc j hj hSj' x hx hb
    simp only [Wo]
    split
    ·rfl
    ·exact this
  have hcnt : ((List.range l.length).filter fun i => !Wo (Xh listed) k i).length ≤ fuel := by
   have hsub : ((List.range l.length).filter fun i => !Wo (Xh listed) k i).length < ((List.range l.length).filter fun i => !Xh listed i).length := by
    have e1 : (List.range l.length).filter (fun i => !Wo (Xh listed) k i) = ((List.range l.length).filter fun i => !Xh listed i).filter fun i => decide (i ≠ k) := by
     rw [List.filter_filter]
     apply List.filter_congr
     intro i _
     unfold Wo
     by_cases hik : i = k <;> simp [hik]
    rw [e1]
    refine List.length_filter_lt_length_iff_exists.2 ⟨k, ?_, by simp⟩
    rw [List.mem_filter]
    exact ⟨by simpa using hkl, by simp [hSk]⟩
   omega
  have hwa : X1 l.toArray (od l k) (EL P l sp e0 L0 (Xh listed) val l.length).1 = X1 l.toArray (od l k) (EL P l sp e0 L0 full val' k).1 := (Jca b1).trans (Jca a1)
  have hwk : X1 l.toArray (od l k) (EL P l sp e0 L0 (Xh listed) val k).1 = X1 l.toArray (od l k) (EL P l sp e0 L0 full val' k).1 := Jca a1
  have next : ∀ (v : Value) (a' : Act) (w' : World), (if X1 l.toArray (od l k) (EL P l sp e0 L0 full val' k).1 = true then (sd sp k).V P (od l k) (EL P l sp e0 L0 full val' k).1 (look (EL P l sp e0 L0 full val' k).2) v else v = undef) →
    Sim n a' (Vq (EL P l sp e0 L0 (Xh listed) val l.length).1 (od l k).dst v) → Fr cx w' →
    Sat cx w' (if X1 l.toArray (od l k) (EL P l sp e0 L0 full val' k).1 = true then Vr (EL P l sp e0 L0 (Xh listed) val l.length).2 ((sd sp k).T (EL P l sp e0 L0 full val' k).1 (look (EL P l sp e0 L0 full val' k).2) v) else (EL P l sp e0 L0 (Xh listed) val l.length).2) →
    wpAny P .any l.toArray (lift n Q) fuel (listed.setIfInBounds k true) a' w' := by
   intro v a' w' hvv hs' hF' hS'
   have hstep := EL_step (P := P) (e0 := e0) (L0 := L0) ok hSc hSk v (val := val) l.length (by omega) (Nat.le_refl _)
   have hT : (sd sp k).T (EL P l sp e0 L0 (Xh listed) val k).1 (look (EL P l sp e0 L0 (Xh listed) val k).2) v = (sd sp k).T (EL P l sp e0 L0 full val' k).1 (look (EL P l sp e0 L0 full val' k).2) v :=
    T_loc _ (fun t ht => a1 t (ok.rs k t hkl ht)) (fun i hi => a2 i (.inl hi)) v
   refine ih (listed.setIfInBounds k true) a' w' (Jc5 val k v) (by simpa using hsz) (by rw [hSn]; exact hScn) ?_ (by rw [hSn]; exact hcnt) ?_ hF' ?_
   ·rw [hSn]
    refine cons_step ok hSc hkl hSk hc ?_
    rw [hwk]
    split
    ·rename_i hw
     rw [if_pos hw] at hvv
     rw [V_locL (L' := (EL P l sp e0 L0 full val' k).2) (sd sp k) hsel (ops := l.toArray) a1 (fun t ht => a1 t (ok.rs k t hkl ht)) (fun i hi => a2 i (.inl hi))]
     exact hvv
    ·rename_i hw
     rw [if_neg hw] at hvv
     exact hvv
   ·rw [hSn, hstep]; exact hs'
   ·rw [hSn, hstep]
    simp only
    rw [hwk, hT]
    exact hS'
  unfold wpOp
  rw [ho]
  simp only
  rw [Jdy hs, hwa]
  cases h0 with
  | pass hw h3 =>
   rw [hw]
   simp only [Bool.false_eq_true, if_false]
   refine next undef _ w (by rw [if_neg (by rw [hw]; simp)]) ?_ hF (by rw [if_neg (by rw [hw]; simp)]; exact hS)
   cases hd : (od l k).dst with
   | none => exact hs
   | some d => exact hs.put (ok.dst k d hkl hd) undef
  | take hw hi hl h3 =>
   rw [hw, if_pos rfl]
   refine .inl ?_
   have hr := hl.out w _ hF hS (by rw [Jew, Jew]) (fun i hi => (b2 i hi).trans (a2 i hi))
   have hev : execOp (ev (EL P l sp e0 L0 full val' k).1) (od l k) = execOp (ev (EL P l sp e0 L0 (Xh listed) val l.length).1) (od l k) :=
    ev_loc hsel (ops := l.toArray) (fun t ht => ((b1 t ht).trans (a1 t ht)).symm)
   unfold RunsTo at hr
   rw [hev] at hr
   unfold Oper.wp
   rw [hs.ev]
   have put : ∀ v : Value, Sim n (a.put (od l k).dst v) (Vq (EL P l sp e0 L0 (Xh listed) val l.length).1 (od l k).dst v) := by
    intro v
    cases hd : (od l k).dst with
    | none => exact hs
    | some d => exact hs.put (ok.dst k d hkl hd) v
   have go : ∀ v w', (sd sp k).V P (od l k) (EL P l sp e0 L0 full val' k).1 (look (EL P l sp e0 L0 full val' k).2) v ∧ Fr cx w' ∧ Sat cx w' (Vr (EL P l sp e0 L0 (Xh listed) val l.length).2 ((sd sp k).T (EL P l sp e0 L0 full val' k).1 (look (EL P l sp e0 L0 full val' k).2) v)) →
     wpAny P .any l.toArray (lift n Q) fuel (listed.setIfInBounds k true) (a.put (od l k).dst v) w' :=
    fun v w' ⟨g1, g2, g3⟩ => next v _ w' (by rw [if_pos hw]; exact g1) (put v) g2 (by rw [if_pos hw]; exact g3)
   generalize (execOp (ev (EL P l sp e0 L0 (Xh listed) val l.length).1) (od l k)).run P w = r at *
   cases r with
   | halt x w' => exact hr.elim
   | ok nx w' =>
    cases nx with
    | value v => exact go v w' hr
    | skip => exact go undef w' hr
    | enter f args =>
     show Calls P f args w' _
     refine Calls.mono hr ?_
     rintro en w'' ⟨v, rfl, hk'⟩
     exact go v w'' hk'
    | _ => exact hr.elim
theorem EL_none (S : Nat → Bool) (h : ∀ k, S k = false) (val : Nat → Value) : ∀ k, EL P l sp e0 L0 S val k = (e0, L0) := by
 intro k
 induction k with
 | zero => rfl
 | succ k ih => simp only [EL, h k]; exact ih
end sound
def empC : Chunk := ⟨fun S _ => ∀ b, ¬ S b, fun _ _ _ _ h => h⟩
theorem Sat.emp {cx : Cx} {w : World} {L : List Chunk} (h : Sat cx w L) (hF : Fr cx w) : Sat cx w (L ++ [empC]) :=
 h.snoc hF (Grow.refl w) (S := fun _ => False) (fun _ h => h) (fun _ h => h.elim)
theorem Sat.pad {cx : Cx} {w : World} (hF : Fr cx w) : ∀ (k : Nat) {L : List Chunk}, Sat cx w L → Sat cx w (L ++ List.replicate k empC)
 | 0, L, h => by simpa using h
 | k + 1, L, h => by
  have := Sat.pad hF k (h.emp hF)
  rwa [List.append_assoc, List.singleton_append, ← List.replicate_succ] at this
theorem Qc {P : Program} {n : Nat} {cx : Cx} {Q : Jae} {e : Xs} {L : List Chunk} {id : Nat} {l : List Oper} (sp : List Kd) (k : Nat) (hm : P.follows .mixedOrders = true)
  (h : Sq P cx l.toArray (fun e L => At cx (Q .normal) e L) l sp e (L ++ List.replicate k empC)) (hB : checkD n l sp = true) : At cx (WC P n (.region id l.toArray true) Q) e L :=
 ⟨fun w hF hS => ⟨fun a ha => by
  have ok := ok_of hB
  have hno : ∀ i, Xh (Array.replicate l.toArray.size false) i = false := by
   intro i
   simp only [Xh, Array.getD_eq_getD_getElem?, Array.getElem?_replicate]
   split <;> rfl
  refine wp_region_any hm (any_of ok h l.toArray.size (Array.replicate l.toArray.size false) a _ (fun _ => undef) (by simp) (fun k _ hk => by rw [hno k] at hk; cases hk) (fun j _ hj => by rw [hno j] at hj; cases hj) ?_ ?_ ⟨hF.os, hF.tape, hF.output, hF.size, hF.block⟩ ?_)
  ·exact Nat.le_trans (List.length_filter_le _ _) (by simp)
  ·rw [EL_none _ hno]; exact ha
  ·rw [EL_none _ hno]
   have hg : Grow w { w with drawn := w.drawn + 1 } := ⟨rfl, rfl, rfl, Nat.le_refl _, fun _ _ => rfl⟩
   exact (hS.pad hF k).grow hg⟩⟩
end Go.Vc

namespace Go.Vc
open Go
def Jc7 (v : Value) (cs : List Value) (T : TypeId) : Chunk :=
 match v with
 | .pointer (some a) => Jf a.block cs T
 | .slice (some a) _ _ => Jf a.block cs T
 | _ => empC
def isPtr (v : Value) : Prop := ∃ b, v = .pointer (some ⟨b, 0, none⟩)
def Kd.nw (i : Nat) (cs : List Value) (T : TypeId) : Kd := .g [] [] [i] (fun _ _ v => isPtr v) (fun _ _ v => [Jc7 v cs T])
def Kd.ns (i : Nat) (cs : List Value) (T m : Nat) : Kd := .g [] [] [i] (fun _ _ v => ∃ b, v = .slice (some ⟨b, 0, none⟩) m m) (fun _ _ v => [Jc7 v cs T])
def Kd.st (a i : Nat) (cs : List Value) (T : TypeId) : Kd := .g [a] [i] [i] (fun _ _ v => v = undef) (fun vs _ _ => [Jc7 (vs.headD undef) cs T])
section rules
variable {P : Program} {n : Nat} {cx : Cx} {Q : Jae} {e : Xs} {L : List Chunk} {ops : Array Oper} {F : Xs → List Chunk → Prop} {rest : List Oper} {ss : List Kd}
theorem Jcg {o : Oper} {s : Kd} {d : Nat} (hw : X1 ops o e = false) (hd : o.dst = some d) (k : Sq P cx ops F rest ss (upd e d undef) L) : Sq P cx ops F (o :: rest) (s :: ss) e L :=
 .pass hw (by rw [hd]; exact k)
theorem Qr {o : Oper} {d : Nat} {v : Value} (hw : X1 ops o e = true) (hd : o.dst = some d) (hr : ∀ w, (execOp (ev e) o).run P w = .ok (.value v) w)
  (k : Sq P cx ops F rest ss (upd e d v) L) : Sq P cx ops F (o :: rest) (.p :: ss) e L := by
 refine .take hw ⟨v, hr⟩ ⟨fun w L' hF hS _ _ => ?_⟩ fun v' hv' => ?_
 ·unfold RunsTo
  rw [hr]
  exact ⟨hr, hF, hS⟩
 ·have h1 := hv' default
  rw [hr] at h1
  have : v = v' := by simpa using h1
  subst this
  rw [hd]
  exact k
theorem d_det {o : Oper} {d : Nat} {v : Value} {rds : List Nat} (hw : X1 ops o e = true) (hd : o.dst = some d)
  (h : ∀ w L', Fr cx w → Sat cx w L' → (∀ i ∈ rds, L'[i]? = L[i]?) → RunsTo P (ev e) o w fun v' w' => v' = v ∧ Grow w w')
  (k : Sq P cx ops F rest ss (upd e d v) L) : Sq P cx ops F (o :: rest) (.d rds v :: ss) e L := by
 refine .take hw ⟨v, rfl⟩ ⟨fun w L' hF hS _ hi => ?_⟩ fun v' hv' => ?_
 ·refine (h w L' hF hS fun i hm => hi i (.inl hm)).mono fun v' w' ⟨h1, h2⟩ => ?_
  exact ⟨h1, hF.grow h2, hS.grow h2⟩
 ·have : v' = v := hv'
  subst this
  rw [hd]
  exact k
variable {d : Nat} {ty : TypeId} {pos : String} {af : Array Edge} {g : Option (Nat × Bool)}
theorem d_load1 {i : Nat} {T T0 b o : Nat} {A : Operand} {cs : List Value} {v : Value} (hA : ∀ w, (isAgg T).run P w = .ok false w)
  (hw : X1 ops ⟨some d, .load T A, ty, pos, af, g⟩ e = true) (hp : ev e A = .pointer (some ⟨b, o, none⟩)) (hL : L[i]? = some (Jf b cs T0)) (hv : rg cs o = some v)
  (k : Sq P cx ops F rest ss (upd e d v) L) : Sq P cx ops F (⟨some d, .load T A, ty, pos, af, g⟩ :: rest) (.d [i] v :: ss) e L :=
 d_det hw rfl (fun w L' hF hS hi => by
  have hc := Jb1 (o := o) (Qp hS ((hi i (by simp)).trans hL))
  rw [← rg_eq, hv] at hc
  unfold RunsTo
  have : (execOp (ev e) ⟨some d, .load T A, ty, pos, af, g⟩).run P w = .ok (.value v) w := by
   simp [execOp, Instr.loadAt, Instr.sureAddr, hp, Jaj hA hc]
  rw [this]
  exact ⟨rfl, Grow.refl w⟩) k
theorem Jbh {i : Nat} {T T0 b o sz : Nat} {A : Operand} {cs vs : List Value} (hA : ∀ w, (isAgg T).run P w = .ok true w) (hs : ∀ w, (sizeOf T).run P w = .ok sz w)
  (hw : X1 ops ⟨some d, .load T A, ty, pos, af, g⟩ e = true) (hp : ev e A = .pointer (some ⟨b, o, none⟩)) (hL : L[i]? = some (Jf b cs T0)) (hv : rd cs o sz = some vs)
  (k : Sq P cx ops F rest ss (upd e d (.agg vs.toArray)) L) : Sq P cx ops F (⟨some d, .load T A, ty, pos, af, g⟩ :: rest) (.d [i] (.agg vs.toArray) :: ss) e L :=
 d_det hw rfl (fun w L' hF hS hi => by
  obtain ⟨h1, h2⟩ := Jg2 hv
  have hr := V4 (P := P) (w := w) (b := b) (o := o) hA hs h1 (fun j v hj => by rw [Jb1 (Qp hS ((hi i (by simp)).trans hL))]; exact h2 j v hj)
  unfold RunsTo
  have : (execOp (ev e) ⟨some d, .load T A, ty, pos, af, g⟩).run P w = .ok (.value (.agg vs.toArray)) w := by
   simp [execOp, Instr.loadAt, Instr.sureAddr, hp, hr]
  rw [this]
  exact ⟨rfl, Grow.refl w⟩) k
theorem Jdx {f : FuncId} {A : Array Operand} {tys : Array TypeId} {args : List Value} {v : Value} (h : Ret P f args v) (hc : ∀ args w, (callFunc f args).run P w = .ok (.enter f args) w)
  (hw : X1 ops ⟨some d, .call ⟨.value (.func f), A, tys⟩, ty, pos, af, g⟩ e = true) (ha : A.toList.map (ev e) = args)
  (k : Sq P cx ops F rest ss (upd e d v) L) : Sq P cx ops F (⟨some d, .call ⟨.value (.func f), A, tys⟩, ty, pos, af, g⟩ :: rest) (.d [] v :: ss) e L :=
 d_det hw rfl (fun w L' _ _ _ => by
  unfold RunsTo
  rw [Jbo hc ha]
  exact h w) k
theorem d_new {o : Oper} {i : Nat} {T : TypeId} {cs : List Value} (hw : X1 ops o e = true) (hd : o.dst = some d)
  (hr : ∀ w, (execOp (ev e) o).run P w = .ok (.value (.pointer (some ⟨w.heap.size, 0, none⟩))) (w.alloc (.cells cs.toArray T))) (hL : L[i]? = some empC)
  (k : ∀ b, Sq P cx ops F rest ss (upd e d (.pointer (some ⟨b, 0, none⟩))) (L.set i (Jf b cs T))) : Sq P cx ops F (o :: rest) (.nw i cs T :: ss) e L := by
 refine .take hw ⟨.pointer (some ⟨0, 0, none⟩), 0, rfl⟩ ⟨fun w L' hF hS _ hi => ?_⟩ fun v' hv' => ?_
 ·unfold RunsTo
  rw [hr]
  refine ⟨⟨_, rfl⟩, hF.grow (Uv w _), ?_⟩
  refine hS.set hF ((hi i (.inr (by simp [Kd.nw, Kd.wrs]))).trans hL) (by simp) fun S _ hSo => ⟨fun x => x = w.heap.size, ⟨fun _ => Iff.rfl, heap_alloc_new w _⟩, fun b hb => ?_, fun b hb _ => (by first | exact heap_alloc_old w _ b hb | exact heap_alloc_old w _ hb)⟩
  subst hb
  exact ⟨by simp, .inr (Nat.le_refl _)⟩
 ·obtain ⟨b, rfl⟩ : ∃ b, v' = .pointer (some ⟨b, 0, none⟩) := hv'
  rw [hd]
  exact k b
theorem Jfz {o : Oper} {i m : Nat} {T : TypeId} {cs : List Value} (hw : X1 ops o e = true) (hd : o.dst = some d)
  (hr : ∀ w, (execOp (ev e) o).run P w = .ok (.value (.slice (some ⟨w.heap.size, 0, none⟩) m m)) (w.alloc (.cells cs.toArray T))) (hL : L[i]? = some empC)
  (k : ∀ b, Sq P cx ops F rest ss (upd e d (.slice (some ⟨b, 0, none⟩) m m)) (L.set i (Jf b cs T))) : Sq P cx ops F (o :: rest) (.ns i cs T m :: ss) e L := by
 refine .take hw ⟨.slice (some ⟨0, 0, none⟩) m m, 0, rfl⟩ ⟨fun w L' hF hS _ hi => ?_⟩ fun v' hv' => ?_
 ·unfold RunsTo
  rw [hr]
  refine ⟨⟨_, rfl⟩, hF.grow (Uv w _), ?_⟩
  refine hS.set hF ((hi i (.inr (by simp [Kd.ns, Kd.wrs]))).trans hL) (by simp) fun S _ hSo => ⟨fun x => x = w.heap.size, ⟨fun _ => Iff.rfl, heap_alloc_new w _⟩, fun b hb => ?_, fun b hb _ => (by first | exact heap_alloc_old w _ b hb | exact heap_alloc_old w _ hb)⟩
  subst hb
  exact ⟨by simp, .inr (Nat.le_refl _)⟩
 ·obtain ⟨b, rfl⟩ : ∃ b, v' = .slice (some ⟨b, 0, none⟩) m m := hv'
  rw [hd]
  exact k b
theorem Jg4 {d : Option Nat} {T : TypeId} {z : Value} {cs : List Value} (hz : ∀ w, (zeroValue T).run P w = .ok z w) (hc : z.cells.toList = cs) (w : World) :
  (execOp (ev e) ⟨d, .alloc T, ty, pos, af, g⟩).run P w = .ok (.value (.pointer (some ⟨w.heap.size, 0, none⟩))) (w.alloc (.cells cs.toArray T)) := by
 subst hc
 simp [execOp, Instr.alloc, hz, Jfi]
theorem run_store {T T0 b o sz : Nat} {A X : Operand} {x : Value} {cs cs' vs : List Value} {w : World} (hs : ∀ w, (sizeOf T).run P w = .ok sz w) (hp : ev e A = .pointer (some ⟨b, o, none⟩)) (hx : ev e X = x) (hc : x.cells.toList = vs) (hsz : vs.length = sz)
  (hpos : Nat.blt 0 sz = true) (hone : vs.all Value.oneCell' = true) (hv : wr cs o vs = some cs') (hb : w.heap[b]? = some (.cells cs.toArray T0 (0, 0))) :
  (execOp (ev e) ⟨none, .store T A X, ty, pos, af, g⟩).run P w = .ok .skip (w.setRow b cs'.toArray) := by
 have hpos' : 0 < vs.length := by rw [hsz]; simpa using hpos
 obtain ⟨h1, h2⟩ := wr_eq hv hpos'
 have hst := run_storeCells_at P b o T0 vs 0 cs.toArray w hb (by simpa using h1) (by simpa using hone)
 have hsz' : x.cells.size = sz := by rw [← hsz, ← hc]; simp
 simp only [Nat.add_zero, List.append_assoc] at hst
 simp only [execOp, Instr.storeAt, Instr.sureAddr, storeVar, hp, hx, Sem.run_bind, Sem.run_pure, Result.andThen_ok, hs, hsz', ne_eq, not_true_eq_false, if_false, hc, hst]
 rw [h2]; simp
theorem d_store {i : Nat} {a T T0 b o sz : Nat} {X : Operand} {x : Value} {cs cs' vs : List Value} (hs : ∀ w, (sizeOf T).run P w = .ok sz w)
  (hw : X1 ops ⟨none, .store T (.tmp a) X, ty, pos, af, g⟩ e = true) (hp : e a = .pointer (some ⟨b, o, none⟩)) (hx : ev e X = x) (hc : x.cells.toList = vs) (hsz : vs.length = sz) (hpos : Nat.blt 0 sz = true)
  (hone : vs.all Value.oneCell' = true) (hL : L[i]? = some (Jf b cs T0)) (hv : wr cs o vs = some cs')
  (k : Sq P cx ops F rest ss e (L.set i (Jf b cs' T0))) : Sq P cx ops F (⟨none, .store T (.tmp a) X, ty, pos, af, g⟩ :: rest) (.st a i cs' T0 :: ss) e L := by
 have hbox : Jc7 (([a].map e).headD undef) cs' T0 = Jf b cs' T0 := by
  have : ([a].map e).headD undef = e a := rfl
  rw [this, hp]; rfl
 refine .take hw ⟨undef, rfl⟩ ⟨fun w L' hF hS _ hi => ?_⟩ fun v' hv' => ?_
 ·have hL' := (hi i (.inl (by simp [Kd.st, Kd.rds]))).trans hL
  have hb := Qp hS hL'
  unfold RunsTo
  rw [run_store hs (by exact hp) hx hc hsz hpos hone hv hb]
  have hset := setRow_heap w b cs.toArray cs'.toArray T0 (0, 0) hb
  refine ⟨rfl, ⟨hF.os, hF.tape, hF.output, by simpa using hF.size, fun c hcn => ?_⟩, ?_⟩
  ·rw [setRow_other w b c _ (fun e => ?_)]
   ·exact hF.block c hcn
   ·obtain ⟨fp, f1, f2, _⟩ := hS.out
    have := (f2 i b ((f1 i _ hL').1 b |>.2 rfl)).2.2
    subst e
    exact hcn this
  ·show Sat cx _ (L'.set i (Jc7 (([a].map e).headD undef) cs' T0))
   rw [hbox]
   exact hS.set hF hL' (by simp) fun S hSp hSo => ⟨S, ⟨hSp.1, hset⟩, fun c hc => ⟨by simpa using (hSo c hc).1, .inl hc⟩, fun c _ hcS => setRow_other w b c _ (fun e => hcS ((hSp.1 c).2 e))⟩
 ·show Sq P cx ops F rest ss e (L.set i (Jc7 (([a].map e).headD undef) cs' T0))
  rw [hbox]
  exact k
theorem X2 (h : F e L) : Sq P cx ops F [] [] e L := .nil h
theorem Jee {os : List Oper} {b : Bool} (ht : b = true → Sq P cx ops F os ss (upd e d (.bool true)) L) (hf : b = false → Sq P cx ops F os ss (upd e d (.bool false)) L) : Sq P cx ops F os ss (upd e d (.bool b)) L := by
 cases b
 ·exact hf rfl
 ·exact ht rfl
end rules
end Go.Vc

namespace Go.Vc
open Go
section rules
variable {P : Program} {n : Nat} {cx : Cx} {Q : Jae} {e : Xs} {L : List Chunk} {ops : Array Oper} {rest : List Oper} {F : Xs → List Chunk → Prop} {ss : List Kd}
variable {ty : TypeId} {pos : String} {af : Array Edge} {g : Option (Nat × Bool)}
theorem r_eqlA {d : Option Nat} {t t' : TypeId} {X Y : Operand} {xs ys : Array Value} {b : Bool} (hg : P.eqGuardType P.depth t = false) (heq : ∀ w, (Op.equalIn Op.maxDepth t (.agg xs) (.agg ys)).run P w = .ok b w)
  (hx : ev e X = .agg xs) (hy : ev e Y = .agg ys) (w : World) :
  (execOp (ev e) ⟨d, .binOp .eql t X Y t', ty, pos, af, g⟩).run P w = .ok (.value (.bool b)) w := by
 simp [execOp, hx, hy, eqGuard, binOp, Op.equal, heq, hg]
theorem r_neqA {d : Option Nat} {t t' : TypeId} {X Y : Operand} {xs ys : Array Value} {b : Bool} (hg : P.eqGuardType P.depth t = false) (heq : ∀ w, (Op.equalIn Op.maxDepth t (.agg xs) (.agg ys)).run P w = .ok b w)
  (hx : ev e X = .agg xs) (hy : ev e Y = .agg ys) (w : World) :
  (execOp (ev e) ⟨d, .binOp .neq t X Y t', ty, pos, af, g⟩).run P w = .ok (.value (.bool (!b))) w := by
 simp [execOp, hx, hy, eqGuard, binOp, Op.equal, heq, hg]
structure WR (P : Program) (n : Nat) (m : Nat) (c : Code) (Q : Jae) (e : Xs) (w : World) : Prop where
 out : ∀ a, Sim n a e → Code.rounds P c (lift n Q) m a w
def Keeps (M : List Nat) (e e' : Xs) : Prop := ∀ t, (M.any fun x => Nat.beq x t) = false → e' t = e t
theorem Keeps.refl (M : List Nat) (e : Xs) : Keeps M e e := fun _ _ => rfl
structure RoundK {σ : Type} (cx : Cx) (M : List Nat) (e0 : Xs) (st : σ → List (Nat × Value)) (hp : σ → List Chunk) (I : σ → Prop) (m : Nat) (μ : σ → Nat) (e : Xs) (w : World) : Prop where
 out : ∃ s, Jgf e (st s) ∧ Keeps M e0 e ∧ Fr cx w ∧ Sat cx w (hp s) ∧ I s ∧ μ s < m
def Row (w : World) (a : Option Addr) (sz : Nat) (xs : List (List Value)) : Prop :=
 xs = [] ∨ ∃ b off, a = some ⟨b, off, none⟩ ∧ ∀ (i : Nat) (x : List Value), xs[i]? = some x → x.length = sz ∧ ∀ (j : Nat) (v : Value), x[j]? = some v → w.cell? ⟨b, off + i * sz + j, none⟩ = some v
theorem Row.some {w : World} {a : Option Addr} {sz : Nat} {xs : List (List Value)} (h : Row w a sz xs) {i : Nat} (hi : i < xs.length) : ∃ b off, a = some ⟨b, off, none⟩ := by
 rcases h with h | ⟨b, off, ha, _⟩
 ·subst h; simp at hi
 ·exact ⟨b, off, ha⟩
theorem Jak {sz : Nat} : ∀ (xs : List (List Value)) (i : Nat) (x : List Value), (xs.all fun x => Nat.beq x.length sz) = true → xs[i]? = some x → ∀ (j : Nat) (v : Value), x[j]? = some v → xs.flatten[i * sz + j]? = some v
 | [], i, x, _, hx, _, _, _ => by simp at hx
 | y :: ys, i, x, hl, hx, j, v, hv => by
  simp only [List.all_cons, Bool.and_eq_true] at hl
  have hy : y.length = sz := by simpa using hl.1
  have hj : j < x.length := by
   rcases Nat.lt_or_ge j x.length with h | h
   ·exact h
   ·simp [List.getElem?_eq_none h] at hv
  cases i with
  | zero =>
   simp at hx; subst hx
   simp only [List.flatten_cons, Nat.zero_mul, Nat.zero_add]
   rw [List.getElem?_append_left hj]
   exact hv
  | succ i =>
   simp at hx
   have := Jak ys i x hl.2 hx j v hv
   simp only [List.flatten_cons]
   rw [List.getElem?_append_right (by rw [Nat.succ_mul]; omega)]
   rw [show (i + 1) * sz + j - y.length = i * sz + j from by rw [Nat.succ_mul]; omega]
   exact this
theorem Z8 {w : World} {i b : Nat} {cs : List Value} {T : TypeId} {sz : Nat} {xs : List (List Value)} (hS : Sat cx w L) (hL : L[i]? = some (Jf b cs T)) (hcs : xs.flatten = cs) (hlen : (xs.all fun x => Nat.beq x.length sz) = true) : Row w (some ⟨b, 0, none⟩) sz xs := by
 refine .inr ⟨b, 0, rfl, fun i x hx => ⟨?_, fun j v hv => ?_⟩⟩
 ·have := List.all_eq_true.1 hlen x (List.mem_of_getElem? hx)
  simpa using this
 ·rw [Jb1 (Qp hS hL), ← hcs, Nat.zero_add]
  exact Jak xs i x hlen hx j v hv
theorem Row.at {w : World} {a : Option Addr} {sz : Nat} {α : Type} {f : α → List Value} {xs : List α} (h : Row w a sz (xs.map f)) {k : Nat} (hk : k < xs.length) : ∃ b off, a = Option.some ⟨b, off, none⟩ :=
 h.some (i := k) (by simpa using hk)
def U0 (a : Option Addr) (k : Nat) : Value :=
 match a with
 | some x => .pointer (some ⟨x.block, x.off + k, none⟩)
 | none => undef
theorem Ur {d : Option Nat} {X : Operand} {a : Option Addr} {m c : Nat} {t u : TypeId} (hu : P.underlying t = some (.slice u)) (hx : ev e X = .slice a m c) (w : World) :
  (execOp (ev e) ⟨d, .call ⟨.builtin .len, #[X], #[t]⟩, ty, pos, af, g⟩).run P w = .ok (.value (.int .i64 m)) w := by
 simp [execOp, resolve, invoke, builtin, hx, Builtin.len_, run_underlying hu, goInt]
theorem r_lenS {d : Option Nat} {X : Operand} {s : ByteArray} {t : TypeId} (hu : P.underlying t = some .string) (hx : ev e X = .string s) (w : World) :
  (execOp (ev e) ⟨d, .call ⟨.builtin .len, #[X], #[t]⟩, ty, pos, af, g⟩).run P w = .ok (.value (.int .i64 s.size)) w := by
 simp [execOp, resolve, invoke, builtin, hx, Builtin.len_, run_underlying hu, goInt]
theorem r_index {d : Option Nat} {X I : Operand} {a : Option Addr} {m c : Nat} {t u sz : Nat} {k : IntKind} {i : Int} (hu : P.underlying t = some (.slice u)) (hs : ∀ w, (sizeOf u).run P w = .ok sz w)
  (hx : ev e X = .slice a m c) (hi : ev e I = .int k i) (ha : ∃ b off, a = some ⟨b, off, none⟩) (h0 : 0 ≤ i) (h1 : i < m) (w : World) :
  (execOp (ev e) ⟨d, .indexAddr t X I, ty, pos, af, g⟩).run P w = .ok (.value (U0 a (i.toNat * sz))) w := by
 obtain ⟨b, off, rfl⟩ := ha
 simp [execOp, Instr.indexAt, hx, hi, asIntOf, run_underlying hu, h0, h1, hs, U0, Addr.add_lit]
theorem Wt {d : Option Nat} {T fld k fo ft fsz bo : Nat} {a : Option Addr} {nm tg pk : String} {em : Bool} {X : Operand} {fs : Array Field} (hu : ∀ w, (underlying T).run P w = .ok (.struct fs) w)
  (hf : fs[fld]? = some ⟨nm, ft, fo, em, tg, pk, bo⟩) (hs : ∀ w, (sizeOf ft).run P w = .ok fsz w) (hsz : Nat.blt 0 fsz = true) (hp : ev e X = U0 a k) (ha : ∃ b off, a = some ⟨b, off, none⟩) (w : World) :
  (execOp (ev e) ⟨d, .fieldAddr T X fld, ty, pos, af, g⟩).run P w = .ok (.value (U0 a (k + fo))) w := by
 obtain ⟨b, off, rfl⟩ := ha
 rw [Qd hu hf hs hsz hp w]
 simp [U0, Nat.add_assoc]
theorem run_loadP1 {T k : Nat} {d : Option Nat} {a : Option Addr} {A : Operand} {sz i j : Nat} {xs : List (List Value)} {x : List Value} {v : Value} {w : World} (hA : ∀ w, (isAgg T).run P w = .ok false w)
  (hp : ev e A = U0 a k) (hk : k = i * sz + j) (hr : Row w a sz xs) (hx : xs[i]? = some x) (hv : rg x j = some v) :
  (execOp (ev e) ⟨d, .load T A, ty, pos, af, g⟩).run P w = .ok (.value v) w := by
 rcases hr with rfl | ⟨b, off, rfl, h⟩
 ·simp at hx
 ·have hc := (h i x hx).2 j v (by rw [← rg_eq]; exact hv)
  subst hk
  have hp' : ev e A = .pointer (some ⟨b, off + i * sz + j, none⟩) := by rw [hp]; simp [U0, Nat.add_assoc]
  simp [execOp, Instr.loadAt, Instr.sureAddr, hp', Jaj hA hc]
theorem run_loadPN {T k m : Nat} {d : Option Nat} {a : Option Addr} {A : Operand} {sz i j : Nat} {xs : List (List Value)} {x vs : List Value} {w : World} (hA : ∀ w, (isAgg T).run P w = .ok true w) (hs : ∀ w, (sizeOf T).run P w = .ok m w)
  (hp : ev e A = U0 a k) (hk : k = i * sz + j) (hr : Row w a sz xs) (hx : xs[i]? = some x) (hv : rd x j m = some vs) :
  (execOp (ev e) ⟨d, .load T A, ty, pos, af, g⟩).run P w = .ok (.value (.agg vs.toArray)) w := by
 rcases hr with rfl | ⟨b, off, rfl, h⟩
 ·simp at hx
 ·obtain ⟨h1, h2⟩ := Jg2 hv
  subst hk
  have hp' : ev e A = .pointer (some ⟨b, off + i * sz + j, none⟩) := by rw [hp]; simp [U0, Nat.add_assoc]
  have := V4 (P := P) (w := w) (b := b) (o := off + i * sz + j) hA hs h1 (fun q v hq => by
   rw [Nat.add_assoc]; exact (h i x hx).2 (j + q) v (h2 q v hq))
  simp [execOp, Instr.loadAt, Instr.sureAddr, hp', this]
theorem Xn {o : Oper} {d : Nat} {v : Value} (hr : ∀ w, Fr cx w → Sat cx w L → (execOp (ev e) o).run P w = .ok (.value v) w) (hw : X1 ops o e = true) (hd : o.dst = some d) (hn : Nat.blt d n = true)
  (k : At cx (WL P n ops Q rest) (upd e d v) L) : At cx (WL P n ops Q (o :: rest)) e L :=
 Jci hw hd hn fun w hF hS => ⟨v, w, hr w hF hS, k.out w hF hS⟩
theorem Ze {o : Oper} {d : Nat} {v : Value} (hr : ∀ w, Fr cx w → (execOp (ev e) o).run P w = .ok (.value v) w) (hw : X1 ops o e = true) (hd : o.dst = some d)
  (k : Sq P cx ops F rest ss (upd e d v) L) : Sq P cx ops F (o :: rest) (.d [] v :: ss) e L :=
 d_det hw hd (fun w _ hF _ _ => by unfold RunsTo; rw [hr w hF]; exact ⟨rfl, Grow.refl w⟩) k
theorem Qg {d : Nat} {f : FuncId} {A : Array Operand} {tys : Array TypeId} {args : List Value} {v : Value} (h : ∀ w, Fr cx w → Sat cx w L → Does P f args.toArray w fun v' w' => v' = v ∧ Grow w w') (hc : ∀ args w, (callFunc f args).run P w = .ok (.enter f args) w)
  (hw : X1 ops ⟨some d, .call ⟨.value (.func f), A, tys⟩, ty, pos, af, g⟩ e = true) (hn : Nat.blt d n = true) (ha : A.toList.map (ev e) = args)
  (k : At cx (WL P n ops Q rest) (upd e d v) L) : At cx (WL P n ops Q (⟨some d, .call ⟨.value (.func f), A, tys⟩, ty, pos, af, g⟩ :: rest)) e L :=
 l_calls hw rfl hn (Jbo hc ha) fun w hF hS => (h w hF hS).mono fun v' w' ⟨hv, hg⟩ => by
  subst hv
  exact k.out w' (hF.grow hg) (hS.grow hg)
theorem Jam {d : Nat} {f : FuncId} {A : Array Operand} {tys : Array TypeId} {args : List Value} {v : Value} {rds : List Nat} (h : ∀ w L', Fr cx w → Sat cx w L' → (∀ i ∈ rds, L'[i]? = L[i]?) → Does P f args.toArray w fun v' w' => v' = v ∧ Grow w w') (hc : ∀ args w, (callFunc f args).run P w = .ok (.enter f args) w)
  (hw : X1 ops ⟨some d, .call ⟨.value (.func f), A, tys⟩, ty, pos, af, g⟩ e = true) (ha : A.toList.map (ev e) = args)
  (k : Sq P cx ops F rest ss (upd e d v) L) : Sq P cx ops F (⟨some d, .call ⟨.value (.func f), A, tys⟩, ty, pos, af, g⟩ :: rest) (.d rds v :: ss) e L :=
 d_det hw rfl (fun w L' hF hS hi => by
  unfold RunsTo
  rw [Jbo hc ha]
  exact h w L' hF hS hi) k
theorem fold_set (off : Nat) : ∀ (vs : List Value) (j : Nat) (cs : Array Value), off + j + vs.length ≤ cs.size →
  ((vs.zipIdx j).foldl (fun cs (p : Value × Nat) => cs.setIfInBounds (off + p.2) p.1) cs).toList = cs.toList.take (off + j) ++ vs ++ cs.toList.drop (off + j + vs.length)
 | [], j, cs, _ => by simp
 | v :: vs, j, cs, h => by
  simp only [List.zipIdx_cons, List.foldl_cons]
  rw [fold_set off vs (j + 1) _ (by simp at h ⊢; omega)]
  have hlt : off + j < cs.size := by simp at h; omega
  simp only [Array.toList_setIfInBounds, List.length_cons]
  have e1 : (cs.toList.set (off + j) v).take (off + (j + 1)) = cs.toList.take (off + j) ++ [v] := by
   rw [show off + (j + 1) = (off + j) + 1 from by omega, List.take_add_one]
   rw [List.take_set_of_le (Nat.le_refl _)]
   simp [hlt]
  have e2 : (cs.toList.set (off + j) v).drop (off + (j + 1) + vs.length) = cs.toList.drop (off + j + (vs.length + 1)) := by
   rw [List.drop_set_of_lt (by omega)]
   congr 1; omega
  rw [e1, e2]
  simp
theorem fill_all (sz : Nat) : ∀ (vs : List Value) (i : Nat) (cs : Array Value), (∀ v ∈ vs, v.cells.size = sz) → cs.size = (i + vs.length) * sz →
  ∃ out : Array Value, Instr.fill (fun i => some (i * sz, sz)) cs ((vs.zipIdx i).map fun p => (p.2, p.1)) = some out ∧ out.toList = cs.toList.take (i * sz) ++ vs.flatMap fun v => v.cells.toList
 | [], i, cs, _, hsz => ⟨cs, rfl, by simp at hsz; simp [← hsz, List.take_of_length_le]⟩
 | v :: vs, i, cs, hv, hsz => by
  have h1 : v.cells.size = sz := hv v (by simp)
  have hle : i * sz + v.cells.size ≤ cs.size := by
   rw [h1, hsz, ← Nat.succ_mul]; exact Nat.mul_le_mul_right _ (by simp)
  have hf := fold_set (i * sz) v.cells.toList 0 cs (by simpa using hle)
  obtain ⟨out, ho1, ho2⟩ := fill_all sz vs (i + 1) (v.cells.zipIdx.foldl (fun cs (p : Value × Nat) => cs.setIfInBounds (i * sz + p.2) p.1) cs) (fun u hu => hv u (by simp [hu])) (by
   have : (v.cells.zipIdx.foldl (fun cs (p : Value × Nat) => cs.setIfInBounds (i * sz + p.2) p.1) cs).size = cs.size := by
    rw [← Array.foldl_toList, ← Array.length_toList, Array.toList_zipIdx, hf]
    simp
    omega
   rw [this, hsz]; simp; congr 1; omega)
  refine ⟨out, ?_, ?_⟩
  ·simp only [List.zipIdx_cons, List.map_cons, Instr.fill]
   rw [if_neg (by simp [h1]; omega)]
   exact ho1
  ·rw [ho2, ← Array.foldl_toList, Array.toList_zipIdx, hf]
   simp only [List.flatMap_cons]
   rw [show (i + 1) * sz = i * sz + v.cells.toList.length from by rw [Nat.succ_mul]; simp [h1]]
   simp only [Nat.add_zero]
   have hl : (cs.toList.take (i * sz) ++ v.cells.toList).length = i * sz + v.cells.toList.length := by simp; omega
   rw [List.take_left' hl, List.append_assoc]
theorem Zd {d : Option Nat} {t u sz m : Nat} {parts : Array (Nat × Operand)} {z : Value} {vs : List Value} {cs : List Value} (hu : P.underlying t = some (.slice u)) (hs : ∀ w, (sizeOf u).run P w = .ok sz w) (hz : ∀ w, (zeroValue u).run P w = .ok z w)
  (hps : parts.toList.map (fun (i, x) => (i, ev e x)) = (vs.zipIdx 0).map fun p => (p.2, p.1)) (hm : vs.length = m) (hall : (vs.all fun v => Nat.beq v.cells.size sz) = true) (hb : Nat.ble (m * sz) 16777216 = true) (hcs : (vs.flatMap fun v => v.cells.toList) = cs) (w : World) :
  (execOp (ev e) ⟨d, .buildSlice t m parts, ty, pos, af, g⟩).run P w = .ok (.value (.slice (some ⟨w.heap.size, 0, none⟩) m m)) (w.alloc (.cells cs.toArray u)) := by
 have hps' : (parts.map fun (i, x) => (i, ev e x)).toList = (vs.zipIdx 0).map fun p => (p.2, p.1) := by rw [← hps, Array.toList_map]
 have hb' : m * sz ≤ 16777216 := by simpa using hb
 have hall' : ∀ v ∈ vs, v.cells.size = sz := fun v hv => by simpa using List.all_eq_true.1 hall v hv
 have key : ∀ cs0 : Array Value, cs0.size = m * sz → Instr.fill (fun i => some (i * sz, sz)) cs0 ((vs.zipIdx 0).map fun p => (p.2, p.1)) = some cs.toArray := by
  intro cs0 h0
  obtain ⟨out, h1, h2⟩ := fill_all sz vs 0 cs0 hall' (by rw [h0, Nat.zero_add, hm])
  rw [h1]
  congr 1
  apply Array.ext'
  rw [h2, ← hcs]; simp
 have h24 : ¬ m * sz > 2 ^ 24 := by omega
 by_cases h0 : m * sz = 0
 ·simp only [execOp, Instr.buildSlice, Sem.run_bind, run_underlying hu, Result.andThen_ok, hs, hps', h24, if_false]
  simp only [h0, if_true, Sem.run_pure, pure_bind]
  rw [key _ (by simp [h0])]
  simp [newRow, newObj, Sem.run]
 ·have hk := key ((Array.range (m * sz)).map (z.cells[· % z.cells.size]!)) (by simp)
  simp only [execOp, Instr.buildSlice, Sem.run_bind, run_underlying hu, Result.andThen_ok, hs, hps', h24, h0, if_false, hz, Sem.run_pure, hk]
  simp [newRow, newObj, Sem.run]
theorem Qw {d : Nat} {t u sz m : Nat} {parts : Array (Nat × Operand)} {z : Value} {vs cs : List Value} (hu : P.underlying t = some (.slice u)) (hs : ∀ w, (sizeOf u).run P w = .ok sz w) (hz : ∀ w, (zeroValue u).run P w = .ok z w)
  (hw : X1 ops ⟨some d, .buildSlice t m parts, ty, pos, af, g⟩ e = true) (hn : Nat.blt d n = true)
  (hps : parts.toList.map (fun (i, x) => (i, ev e x)) = (vs.zipIdx 0).map fun p => (p.2, p.1)) (hm : vs.length = m) (hall : (vs.all fun v => Nat.beq v.cells.size sz) = true) (hb : Nat.ble (m * sz) 16777216 = true) (hcs : (vs.flatMap fun v => v.cells.toList) = cs)
  (k : ∀ b, At cx (WL P n ops Q rest) (upd e d (.slice (some ⟨b, 0, none⟩) m m)) (L ++ [Jf b cs u])) : At cx (WL P n ops Q (⟨some d, .buildSlice t m parts, ty, pos, af, g⟩ :: rest)) e L :=
 Jci hw rfl hn fun w hF hS => ⟨.slice (some ⟨w.heap.size, 0, none⟩) m m, w.alloc (.cells cs.toArray u), Zd hu hs hz hps hm hall hb hcs w, (k w.heap.size).out _ (hF.grow (Uv w _)) (sat_new hF hS cs u)⟩
end rules
end Go.Vc

namespace Go.Vc
open Go
structure Turn (w w' : World) (S : Nat → Prop) (C : Chunk) : Prop where
 os : w'.os = w.os
 tape : w'.tape = w.tape
 output : w'.output = w.output
 size : w.heap.size ≤ w'.heap.size
 block : ∀ b, b < w.heap.size → ¬ S b → w'.heap[b]? = w.heap[b]?
 out : ∃ S' : Nat → Prop, C.P S' w' ∧ ∀ b, S' b → b < w'.heap.size ∧ (S b ∨ w.heap.size ≤ b)
abbrev Z2 : Nat → Prop := fun _ => False
structure Imp (C D : Chunk) : Prop where
 out : ∀ S w, C.P S w → D.P S w
theorem Imp.refl (C : Chunk) : Imp C C := ⟨fun _ _ h => h⟩
theorem Imp.of {C D : Chunk} (h : C = D) : Imp C D := h ▸ Imp.refl C
theorem Turn.grow {w w' : World} {C : Chunk} (h : Turn w w' Z2 C) : Grow w w' := ⟨h.os, h.tape, h.output, h.size, fun k hk => h.block k hk (fun x => x)⟩
theorem Y9 {σ : Type} {w0 : World} {S : Nat → Prop} {L : List Chunk} {v : Value} {G : σ → Value} {C : σ → Chunk} {i : Nat} {C0 : Chunk} (x : σ) (hL : L[i]? = some C0) (hv : v = G x) (hc : Imp C0 (C x)) :
  ∀ w, Fr ⟨w0, S⟩ w → Sat ⟨w0, S⟩ w L → ∃ x, v = G x ∧ Turn w0 w S (C x) := fun w hF hS => by
 refine ⟨x, hv, hF.os, hF.tape, hF.output, hF.size, fun b hb hn => hF.block b ?_, ?_⟩
 ·rintro (h | h)
  ·exact absurd h (by show ¬ w0.heap.size ≤ b; omega)
  ·exact hn h
 ·obtain ⟨fp, h1, h2, _⟩ := hS.out
  refine ⟨fp i, hc.out _ _ (h1 i C0 hL), fun b hb => ?_⟩
  obtain ⟨_, a2, a3⟩ := h2 i b hb
  exact ⟨a2, a3.symm⟩
theorem Sat.one {w : World} {S : Nat → Prop} {C : Chunk} (h : C.P S w) (hb : ∀ b, S b → b < w.heap.size) : Sat ⟨w, S⟩ w [C] :=
 ⟨fun i b => i = 0 ∧ S b, fun i c hc => by
  cases i with
  | zero => simp at hc; subst hc; simpa using h
  | succ i => simp at hc, fun i b ⟨hi, hs⟩ => ⟨by simp [hi], hb b hs, .inr hs⟩, fun i j b ⟨hi, _⟩ ⟨hj, _⟩ => by omega⟩
section rules
variable {P : Program} {n : Nat} {cx : Cx} {Q : Jae} {e : Xs} {L : List Chunk} {ops : Array Oper} {F : Xs → List Chunk → Prop} {rest : List Oper} {ss : List Kd}
variable {d : Nat} {ty : TypeId} {pos : String} {af : Array Edge} {g : Option (Nat × Bool)}
theorem c_know {K : Xs → World → Prop} {φ : Prop} (h : ∀ w, Fr cx w → Sat cx w L → φ) (k : φ → At cx K e L) : At cx K e L :=
 ⟨fun w hF hS => (k (h w hF hS)).out w hF hS⟩
theorem Fr.turn {w w' : World} {S : Nat → Prop} {C : Chunk} (hF : Fr cx w) (h : Turn w w' S C) (hS : ∀ b, S b → cx.own b) : Fr cx w' :=
 ⟨h.os.trans hF.os, h.tape.trans hF.tape, h.output.trans hF.output, Nat.le_trans hF.size h.size, fun b hb => by
  have hlt : b < w.heap.size := by
   have : ¬ cx.w0.heap.size ≤ b := fun hh => hb (.inl hh)
   have := hF.size
   omega
  rw [h.block b hlt (fun hs => hb (hS b hs)), hF.block b hb]⟩
theorem Sat.turnNew {w w' : World} {C : Chunk} (hS : Sat cx w L) (hF : Fr cx w) (h : Turn w w' Z2 C) : Sat cx w' (L ++ [C]) := by
 obtain ⟨S', h1, h2⟩ := h.out
 exact hS.snoc hF h.grow h1 fun b hb => ⟨((h2 b hb).2.resolve_left (fun x => x)), (h2 b hb).1⟩
theorem Sat.turnAt {w w' : World} {i : Nat} {C0 C : Chunk} (hS : Sat cx w L) (hF : Fr cx w) (hL : L[i]? = some C0)
  (h : ∀ S : Nat → Prop, C0.P S w → (∀ b, S b → b < w.heap.size ∧ cx.own b) → Turn w w' S C) (hs : w.heap.size ≤ w'.heap.size) : Sat cx w' (L.set i C) :=
 hS.set hF hL hs fun S hp hb => by
  have t := h S hp hb
  obtain ⟨S', k1, k2⟩ := t.out
  exact ⟨S', k1, k2, fun b hlt hn => t.block b hlt hn⟩
theorem Sat.at {w : World} {i : Nat} {C : Chunk} (hS : Sat cx w L) (hL : L[i]? = some C) : ∃ S : Nat → Prop, C.P S w ∧ ∀ b, S b → b < w.heap.size ∧ cx.own b := by
 obtain ⟨fp, h1, h2, _⟩ := hS.out
 exact ⟨fp i, h1 i C hL, fun b hb => (h2 i b hb).2⟩
theorem l_runs {o : Oper} {d : Nat} (hw : X1 ops o e = true) (hd : o.dst = some d) (hn : Nat.blt d n = true)
  (h : ∀ w, Fr cx w → Sat cx w L → RunsTo P (ev e) o w fun v w' => WL P n ops Q rest (upd e d v) w') : At cx (WL P n ops Q (o :: rest)) e L :=
 ⟨fun w hF hS => ⟨fun a ha => by
  have hr := h w hF hS
  unfold RunsTo at hr
  unfold wpList
  rw [Jdy ha, hw, if_pos rfl]
  refine .inl ?_
  unfold Oper.wp
  rw [ha.ev]
  generalize (execOp (ev e) o).run P w = r at hr
  cases r with
  | halt x w' => exact hr.elim
  | ok nx w' =>
   cases nx with
   | value v =>
    show wpList P ops (lift n Q) rest (a.put o.dst v) w'
    rw [hd]
    exact hr.out _ (ha.put hn v)
   | skip =>
    show wpList P ops (lift n Q) rest (a.put o.dst undef) w'
    rw [hd]
    exact hr.out _ (ha.put hn undef)
   | enter f args =>
    refine Calls.mono hr ?_
    rintro en w'' ⟨v, rfl, hk⟩
    show wpList P ops (lift n Q) rest (a.put o.dst v) w''
    rw [hd]
    exact hk.out _ (ha.put hn v)
   | _ => exact hr.elim⟩⟩
def Turns (P : Program) (cx : Cx) (e : Xs) (o : Oper) (L : List Chunk) (i : Nat) (rds : List Nat) {σ : Type} (G : σ → Value) (C : σ → Chunk) : Prop :=
 ∀ w L', Fr cx w → Sat cx w L' → L'.length = L.length → (∀ j, j ∈ rds ∨ j = i → L'[j]? = L[j]?) → RunsTo P (ev e) o w fun v w' => ∃ x, v = G x ∧ Fr cx w' ∧ Sat cx w' (L'.set i (C x))
def Jd7 (P : Program) (cx : Cx) (e : Xs) (o : Oper) (L : List Chunk) (rds : List Nat) {σ : Type} (G : σ → Value) (C : σ → Chunk) : Prop :=
 ∀ w L', Fr cx w → Sat cx w L' → (∀ j, j ∈ rds → L'[j]? = L[j]?) → RunsTo P (ev e) o w fun v w' => ∃ x, v = G x ∧ Turn w w' Z2 (C x)
theorem Qf {σ : Type} {o : Oper} {d i : Nat} {rds : List Nat} {G : σ → Value} {C : σ → Chunk} (h : Turns P cx e o L i rds G C) (hw : X1 ops o e = true) (hd : o.dst = some d) (hn : Nat.blt d n = true)
  (k : ∀ x, At cx (WL P n ops Q rest) (upd e d (G x)) (L.set i (C x))) : At cx (WL P n ops Q (o :: rest)) e L :=
 l_runs hw hd hn fun w hF hS => (h w L hF hS rfl (fun _ _ => rfl)).mono fun v w' ⟨x, hv, hF', hS'⟩ => by
  subst hv
  exact (k x).out w' hF' hS'
theorem Za {σ : Type} {o : Oper} {d : Nat} {rds : List Nat} {G : σ → Value} {C : σ → Chunk} (h : Jd7 P cx e o L rds G C) (hw : X1 ops o e = true) (hd : o.dst = some d) (hn : Nat.blt d n = true)
  (k : ∀ x, At cx (WL P n ops Q rest) (upd e d (G x)) (L ++ [C x])) : At cx (WL P n ops Q (o :: rest)) e L :=
 l_runs hw hd hn fun w hF hS => (h w L hF hS (fun _ _ => rfl)).mono fun v w' ⟨x, hv, ht⟩ => by
  subst hv
  exact (k x).out w' (hF.grow ht.grow) (hS.turnNew hF ht)
def Kd.t (i : Nat) (rds : List Nat) {σ : Type} (G : σ → Value) (Cv : Value → Chunk) : Kd := .g [] rds [i] (fun _ _ v => ∃ x, v = G x) (fun _ _ v => [Cv v])
theorem U8 {σ : Type} {o : Oper} {d i : Nat} {rds : List Nat} {G : σ → Value} {C : σ → Chunk} {Cv : Value → Chunk} (x0 : σ) (h : Turns P cx e o L i rds G C) (hC : ∀ x, Cv (G x) = C x) (hw : X1 ops o e = true) (hd : o.dst = some d)
  (k : ∀ x, Sq P cx ops F rest ss (upd e d (G x)) (L.set i (C x))) : Sq P cx ops F (o :: rest) (.t i rds G Cv :: ss) e L := by
 refine .take hw ⟨G x0, x0, rfl⟩ ⟨fun w L' hF hS hl hi => ?_⟩ fun v' hv' => ?_
 ·refine (h w L' hF hS hl fun j hj => hi j (by simpa [Kd.t, Kd.rds, Kd.wrs] using hj)).mono fun v w' ⟨x, hv, hF', hS'⟩ => ?_
  subst hv
  refine ⟨⟨x, rfl⟩, hF', ?_⟩
  show Sat cx w' (L'.set i (Cv (G x)))
  rw [hC]; exact hS'
 ·obtain ⟨x, rfl⟩ : ∃ x, v' = G x := hv'
  show Sq P cx ops F rest ss (Vq e o.dst (G x)) (L.set i (Cv (G x)))
  rw [hC, hd]
  exact k x
theorem Ja8 {σ : Type} {o : Oper} {d i : Nat} {rds : List Nat} {G : σ → Value} {C : σ → Chunk} {Cv : Value → Chunk} (x0 : σ) (h : Jd7 P cx e o L rds G C) (hC : ∀ x, Cv (G x) = C x) (hL : L[i]? = some empC) (hw : X1 ops o e = true) (hd : o.dst = some d)
  (k : ∀ x, Sq P cx ops F rest ss (upd e d (G x)) (L.set i (C x))) : Sq P cx ops F (o :: rest) (.t i rds G Cv :: ss) e L := by
 refine U8 x0 (fun w L' hF hS hl hi => ?_) hC hw hd k
 refine (h w L' hF hS fun j hj => hi j (.inl hj)).mono fun v w' ⟨x, hv, ht⟩ => ⟨x, hv, hF.grow ht.grow, ?_⟩
 exact hS.turnAt hF ((hi i (.inr rfl)).trans hL) (fun S hp _ => by
  obtain ⟨S', k1, k2⟩ := ht.out
  exact ⟨ht.os, ht.tape, ht.output, ht.size, fun b hb _ => ht.block b hb (fun x => x), S', k1, fun b hb => ⟨(k2 b hb).1, .inr ((k2 b hb).2.resolve_left (fun x => x))⟩⟩) ht.size
theorem Qs {σ : Type} {d : Nat} {f : FuncId} {A : Array Operand} {tys : Array TypeId} {args : List Value} {rds : List Nat} {G : σ → Value} {C : σ → Chunk}
  (h : ∀ w L', Fr cx w → Sat cx w L' → (∀ j ∈ rds, L'[j]? = L[j]?) → Does P f args.toArray w fun v w' => ∃ x, v = G x ∧ Turn w w' Z2 (C x)) (hc : ∀ args w, (callFunc f args).run P w = .ok (.enter f args) w)
  (ha : A.toList.map (ev e) = args) : Jd7 P cx e ⟨some d, .call ⟨.value (.func f), A, tys⟩, ty, pos, af, g⟩ L rds G C := fun w L' hF hS hi => by
 unfold RunsTo
 rw [Jbo hc ha]
 exact h w L' hF hS hi
def J3 (E : TypeId) (sz : Nat) (v : Value) (n : Nat) (xs : List (List Value)) : Chunk where
 P S w := (w.ownsRow 0 E sz v n xs.flatten ∧ xs.length = n ∧ ∀ x ∈ xs, x.length = sz) ∧ ∀ b, v.ownBlock = some b → S b
 loc S w w' h := by
  rintro ⟨⟨⟨h1, h2⟩, h3⟩, h4⟩
  refine ⟨⟨⟨h1, ?_⟩, h3⟩, h4⟩
  rcases h2 with h2 | ⟨g, cap, cur, rfl, hb, hh, hr⟩
  ·exact .inl h2
  ·exact .inr ⟨g, cap, cur, rfl, hb, (h g (h4 g rfl)).trans hh, hr⟩
theorem Jeg {w : World} {E sz n c : Nat} {a : Option Addr} {xs : List (List Value)} (h : w.ownsRow 0 E sz (.slice a n c) n xs.flatten) (hn : xs.length = n) (hl : ∀ x ∈ xs, x.length = sz) : Row w a sz xs := by
 rcases h.2 with ⟨hv, h0⟩ | ⟨g, cap, cur, hv, _, hh, hnc, _, hcs, ht⟩
 ·exact .inl (List.eq_nil_of_length_eq_zero (hn.trans h0))
 ·simp only [Value.slice.injEq] at hv
  obtain ⟨rfl, _, rfl⟩ := hv
  refine .inr ⟨g, 0, rfl, fun i x hx => ⟨hl x (List.mem_of_getElem? hx), fun j v hj => ?_⟩⟩
  have hg := Jak xs i x (List.all_eq_true.2 fun y hy => by simpa using hl y hy) hx j v hj
  rw [← ht, List.getElem?_take] at hg
  split at hg
  ·rw [World.cell?, hh]
   simpa using hg
  ·cases hg
theorem Up {w : World} {i E sz n c : Nat} {a : Option Addr} {xs : List (List Value)} (hS : Sat cx w L) (hL : L[i]? = some (J3 E sz (.slice a n c) n xs)) : Row w a sz xs := by
 obtain ⟨S, ⟨⟨h1, h2, h3⟩, _⟩, _⟩ := hS.at hL
 exact Jeg h1 h2 h3
theorem lenOf {w : World} {i E sz n : Nat} {v : Value} {xs : List (List Value)} (hS : Sat cx w L) (hL : L[i]? = some (J3 E sz v n xs)) : xs.length = n := by
 obtain ⟨S, ⟨⟨h1, h2, h3⟩, _⟩, _⟩ := hS.at hL
 exact h2
theorem J5 {K : Xs → World → Prop} (E sz : Nat) (k : At cx K e (L ++ [J3 E sz (.slice none 0 0) 0 []])) : At cx K e L :=
 ⟨fun w hF hS => k.out w hF (hS.snoc hF (Grow.refl w) (S := Z2) ⟨⟨World.ownsRow_nil _ _ _ _, rfl, by simp⟩, by simp [Value.ownBlock]⟩ (fun _ h => h.elim))⟩
theorem Xl {K : Xs → World → Prop} (i : Nat) {C C' : Chunk} (hL : L[i]? = some C) (h : Imp C C') (k : At cx K e (L.set i C')) : At cx K e L :=
 ⟨fun w hF hS => k.out w hF (hS.set hF hL (Nat.le_refl _) fun S hp hb => ⟨S, h.out S w hp, fun b hs => ⟨(hb b hs).1, .inl hs⟩, fun _ _ _ => rfl⟩)⟩
theorem Wj {o : Oper} {d : Nat} {v : Value} {rds : List Nat} (hr : ∀ w L', Fr cx w → Sat cx w L' → (∀ i ∈ rds, L'[i]? = L[i]?) → (execOp (ev e) o).run P w = .ok (.value v) w) (hw : X1 ops o e = true) (hd : o.dst = some d)
  (k : Sq P cx ops F rest ss (upd e d v) L) : Sq P cx ops F (o :: rest) (.d rds v :: ss) e L :=
 d_det hw hd (fun w L' hF hS hi => by unfold RunsTo; rw [hr w L' hF hS hi]; exact ⟨rfl, Grow.refl w⟩) k
theorem Jcw {d : Option Nat} {S X : Operand} {t E : TypeId} {I : TypeInfo} {z : Value} {sz by_ : Nat} {w : World} {v : Value} {m : Nat} {xs : List Value} {ad : Addr} {q c : Nat} {news : List Value}
  (ht : P.underlying t = some (.slice E)) (hi : P.info? E = some I) (hz : I.zero = some z) (hsize : I.size = sz) (hby : I.bytes = by_) (hzs : z.cells.size = sz) (hsz : 0 < sz)
  (hs : ev e S = v) (hown : w.ownsRow 0 E sz v m xs) (hx : ev e X = .slice (some ad) q c) (hl : news.length = q * sz) (hnews : ∀ j u, news[j]? = some u → w.cell? (ad.add j) = some u) (h1 : ∀ u ∈ news, u.oneCell' = true)
  (h63 : m + q ≤ maxLen) (hbytes : (m + q) * by_ ≤ 140737488355328) :
  ∃ v' w', (execOp (ev e) ⟨d, .call ⟨.builtin .append, #[S, X], #[t, t]⟩, ty, pos, af, g⟩).run P w = .ok (.value v') w' ∧ w'.ownsRow 0 E sz v' (m + q) (xs ++ news) ∧ w.grownBy w' v.ownBlock ∧ (v'.ownBlock = v.ownBlock ∨ v'.ownBlock = some w.heap.size) := by
 obtain ⟨v', w', hr, h2, h3, h4, h5⟩ := run_append_own_at (P := P) w 0 t ty E I z sz by_ ht hi hz hsize hby hzs hsz v m xs hown ad q c news hl hnews h1 h63 hbytes (Nat.zero_le _)
 refine ⟨v', w', ?_, h2, h3, h5⟩
 simp only [execOp, resolve, invoke, builtin, Sem.run_bind, Sem.run_pure, Result.andThen_ok, List.map_toArray, List.map_cons, List.map_nil, hs, hx, hr]
theorem U2 {w : World} {E sz n : Nat} {v : Value} {xs : List Value} (h : w.ownsRow 0 E sz v n xs) : ∃ p : Option Addr × Nat, v = .slice p.1 n p.2 := by
 rcases h.2 with ⟨rfl, h0⟩ | ⟨g, cap, cur, rfl, _⟩
 ·subst h0; exact ⟨(none, 0), rfl⟩
 ·exact ⟨(some ⟨g, 0, none⟩, cap), rfl⟩
theorem Jas {w w' : World} {E sz m' : Nat} {v v' : Value} {xs' : List (List Value)} {S : Nat → Prop} (hS : ∀ b, v.ownBlock = some b → S b) (ho : w'.ownsRow 0 E sz v' m' xs'.flatten) (hg : w.grownBy w' v.ownBlock)
  (h5 : v'.ownBlock = v.ownBlock ∨ v'.ownBlock = some w.heap.size) (hn : xs'.length = m') (hl : ∀ x ∈ xs', x.length = sz) : Turn w w' S (J3 E sz v' m' xs') := by
 refine ⟨hg.os, hg.tape, hg.output, hg.size, fun b hb hn => hg.block b hb (fun h => hn (hS b h.symm)), fun b => v'.ownBlock = some b, ⟨⟨ho, hn, hl⟩, fun b h => h⟩, fun b hb => ⟨(ho.lt b hb).2, ?_⟩⟩
 rcases h5 with h | h
 ·exact .inl (hS b (h ▸ hb))
 ·rw [h] at hb; cases hb; exact .inr (Nat.le_refl _)
theorem Sat.turnOf {w w' : World} {i : Nat} {C0 C : Chunk} (hS : Sat cx w L) (hF : Fr cx w) (hL : L[i]? = some C0)
  (h : ∀ S : Nat → Prop, C0.P S w → Turn w w' S C) : Fr cx w' ∧ Sat cx w' (L.set i C) := by
 obtain ⟨S, hp, hb⟩ := hS.at hL
 have t := h S hp
 exact ⟨hF.turn t fun b hs => (hb b hs).2, hS.turnAt hF hL (fun S hp _ => h S hp) t.size⟩
theorem Jag {sz : Nat} : ∀ (xs : List (List Value)), (∀ x ∈ xs, x.length = sz) → ∀ (j : Nat) (u : Value), xs.flatten[j]? = some u → ∃ i k x, xs[i]? = some x ∧ x[k]? = some u ∧ j = i * sz + k
 | [], _, j, u, h => by simp at h
 | x :: r, hl, j, u, h => by
  have hx := hl x (by simp)
  rw [List.flatten_cons] at h
  rcases Nat.lt_or_ge j x.length with hj | hj
  ·rw [List.getElem?_append_left hj] at h
   exact ⟨0, j, x, by simp, h, by simp⟩
  ·rw [List.getElem?_append_right hj] at h
   obtain ⟨i, k, y, h1, h2, h3⟩ := Jag r (fun y hy => hl y (by simp [hy])) _ u h
   exact ⟨i + 1, k, y, by simpa using h1, h2, by rw [Nat.succ_mul]; omega⟩
theorem Yc {sz : Nat} : ∀ (xs : List (List Value)), (∀ x ∈ xs, x.length = sz) → xs.flatten.length = xs.length * sz
 | [], _ => by simp
 | x :: r, hl => by
  rw [List.flatten_cons, List.length_append, Yc r (fun y hy => hl y (by simp [hy])), hl x (by simp), List.length_cons, Nat.succ_mul]
  omega
theorem Jgp {i : Nat} {S X : Operand} {t E : TypeId} {I : TypeInfo} {z : Value} {sz by_ : Nat} {p : Option Addr × Nat} {m m' : Nat} {xs xs' : List (List Value)} {ad : Addr} {q c : Nat} {news : List (List Value)} {rds : List Nat}
  (ht : P.underlying t = some (.slice E)) (hi : P.info? E = some I) (hz : I.zero = some z) (hsize : I.size = sz) (hby : I.bytes = by_) (hzs : z.cells.size = sz) (hsz : Nat.blt 0 sz = true)
  (hL : L[i]? = some (J3 E sz (.slice p.1 m p.2) m xs)) (hs : ev e S = .slice p.1 m p.2) (hx : ev e X = .slice (some ad) q c) (hq : news.length = q) (hnl : ∀ x ∈ news, x.length = sz)
  (hnews : ∀ w L', Fr cx w → Sat cx w L' → (∀ j, j ∈ rds → L'[j]? = L[j]?) → Row w (some ad) sz news) (h1 : ∀ x ∈ news, ∀ u ∈ x, u.oneCell' = true)
  (hxs : xs ++ news = xs') (hm : m + q = m') (h63 : m' ≤ 9223372036854775807) (hbytes : m' * by_ ≤ 140737488355328) :
  Turns P cx e ⟨some d, .call ⟨.builtin .append, #[S, X], #[t, t]⟩, ty, pos, af, g⟩ L i rds (fun p' : Option Addr × Nat => .slice p'.1 m' p'.2) (fun p' => J3 E sz (.slice p'.1 m' p'.2) m' xs') := fun w L' hF hS hl hi' => by
  subst hxs hm
  have hL' := (hi' i (.inr rfl)).trans hL
  obtain ⟨S0, ⟨⟨ho, hlen, hlx⟩, hob⟩, _⟩ := hS.at hL'
  have hsz' : 0 < sz := by simpa using hsz
  have hfl : news.flatten.length = q * sz := by rw [Yc news hnl, hq]
  have hcell : ∀ j u, news.flatten[j]? = some u → w.cell? (ad.add j) = some u := by
   intro j u hj
   obtain ⟨i', k', x, g1, g2, g3⟩ := Jag news hnl j u hj
   rcases hnews w L' hF hS (fun j hj => hi' j (.inl hj)) with h | ⟨b, off, ha, h⟩
   ·subst h; simp at g1
   ·cases ha
    have := (h i' x g1).2 k' u g2
    rw [Addr.add_lit, g3, ← Nat.add_assoc]
    exact this
  obtain ⟨v', w', hr, h2, h3, h5⟩ := Jcw (P := P) (ty := ty) (pos := pos) (af := af) (g := g) (d := some d) ht hi hz hsize hby hzs hsz' hs ho hx hfl hcell (by
   intro u hu
   obtain ⟨x, hx, hux⟩ := List.mem_flatten.1 hu
   exact h1 x hx u hux) (by simp only [maxLen]; omega) hbytes
  obtain ⟨p', rfl⟩ := U2 h2
  rw [← List.flatten_append] at h2
  obtain ⟨hF', hS'⟩ := hS.turnOf hF hL' (C := J3 E sz (.slice p'.1 (m + q) p'.2) (m + q) (xs ++ news)) fun S1 hp => Jas hp.2 h2 h3 h5 (by simp [hlen, hq]) (by
   intro x hx
   rcases List.mem_append.1 hx with h | h
   ·exact hlx x h
   ·exact hnl x h)
  unfold RunsTo
  rw [hr]
  exact ⟨p', rfl, hF', hS'⟩
theorem rep_flat (l : List Value) : ∀ (n j : Nat), j < n * l.length → (List.replicate n l).flatten[j]? = l[j % l.length]?
 | 0, j, h => by simp at h
 | n + 1, j, h => by
  rw [List.replicate_succ, List.flatten_cons]
  rcases Nat.lt_or_ge j l.length with hj | hj
  ·rw [List.getElem?_append_left hj, Nat.mod_eq_of_lt hj]
  ·rw [List.getElem?_append_right hj, rep_flat l n (j - l.length) (by rw [Nat.succ_mul] at h; omega), ← Nat.mod_eq_sub_mod hj]
theorem made_rep (z : Array Value) (n : Nat) (hz : 0 < z.size) : (madeCells z (n * z.size)).toList = (List.replicate n z.toList).flatten := by
 refine List.ext_getElem? fun j => ?_
 rcases Nat.lt_or_ge j (n * z.size) with hj | hj
 ·have h1 := rep_flat z.toList n j (by simpa using hj)
  rw [h1]
  have hm : j % z.size < z.size := Nat.mod_lt _ hz
  simp [madeCells, hj, hm]
 ·rw [List.getElem?_eq_none (by simpa [madeCells] using hj), List.getElem?_eq_none]
  rw [Yc (sz := z.size) _ (by intro x hx; rw [List.eq_of_mem_replicate hx]; simp)]
  simpa using hj
theorem Jbv {N C : Operand} {t E : TypeId} {I : TypeInfo} {z : Value} {sz by_ : Nat} {m c : Nat} {kl kc : IntKind} {rds : List Nat} {zs : List (List Value)} (ht : P.underlying t = some (.slice E)) (hi : P.info? E = some I) (hz : I.zero = some z) (hsize : I.size = sz) (hby : I.bytes = by_)
  (hzs : z.cells.toList.length = sz) (hsz : Nat.blt 0 sz = true) (hn : ev e N = .int kl (m : Int)) (hc : ev e C = .int kc (c : Int)) (hmc : m = c) (hb : by_ * c ≤ 281474976710656) (h63 : c ≤ 9223372036854775807) (hzz : zs = List.replicate m z.cells.toList) :
  Jd7 P cx e ⟨some d, .makeSlice t N C, ty, pos, af, g⟩ L rds (fun p : Option Addr × Nat => .slice p.1 m p.2) (fun p => J3 E sz (.slice p.1 m p.2) m zs) := fun w L' hF hS hi' => by
 subst hsize hby hmc hzz
 obtain ⟨w', hr, ho, hg⟩ := run_make_full (P := P) w 0 t E I z I.size ht hi hz rfl kl kc m hb (by simpa [maxLen] using h63) (Nat.zero_le _)
 have hsz' : 0 < I.size := by simpa using hsz
 have hzz : z.cells.size = I.size := by simpa using hzs
 have ho' : w'.ownsRow 0 E I.size (.slice (some ⟨w.heap.size, 0, none⟩) m m) m (List.replicate m z.cells.toList).flatten := by
  rw [← made_rep z.cells m (by omega), hzz]; exact ho
 unfold RunsTo
 simp only [execOp, hn, hc, hr, Sem.run_bind, Sem.run_pure, Result.andThen_ok]
 refine ⟨(_, _), rfl, hg.os, hg.tape, hg.output, hg.size, fun b hb _ => hg.block b hb (by simp), fun b => b = w.heap.size, ⟨⟨ho', by simp, fun x hx => by rw [List.eq_of_mem_replicate hx]; exact hzs⟩, fun b hb => ?_⟩, fun b hb => ?_⟩
 ·simp [Value.ownBlock] at hb; exact hb.symm
 ·subst hb
  exact ⟨(ho.lt _ rfl).2, .inr (Nat.le_refl _)⟩
def Xg (a : Option Addr) (l m sz : Nat) : Option Addr := if m = l then a else a.map (·.add (l * sz))
theorem Row.cut {w : World} {a : Option Addr} {sz : Nat} {xs : List (List Value)} (h : Row w a sz xs) (l q m : Nat) (hq : l + q ≤ m) : Row w (Xg a l m sz) sz ((xs.drop l).take q) := by
 rcases h with h | ⟨b, off, rfl, h⟩
 ·subst h; exact .inl (by simp)
 ·unfold Xg
  by_cases hm : m = l
  ·have hq0 : q = 0 := by omega
   subst hq0
   exact .inl (by simp)
  ·rw [if_neg hm]
   refine .inr ⟨b, off + l * sz, by simp [Addr.add_lit], fun i x hx => ?_⟩
   rw [List.getElem?_take] at hx
   split at hx
   ·rw [List.getElem?_drop] at hx
    obtain ⟨h1, h2⟩ := h (l + i) x hx
    refine ⟨h1, fun j v hv => ?_⟩
    have := h2 j v hv
    rw [show off + l * sz + i * sz + j = off + (l + i) * sz + j from by rw [Nat.add_mul]; omega]
    exact this
   ·cases hx
theorem Jcs {t u : TypeId} (hu : P.underlying t = some (.slice u)) : P.elem t = u := by simp [Program.elem, hu]
theorem r_sliceLH {d : Option Nat} {X A B : Operand} {a : Option Addr} {m c : Nat} {t u sz : Nat} {ka kb : IntKind} {l h : Int} (hu : P.underlying t = some (.slice u)) (hs : ∀ w, (sizeOf u).run P w = .ok sz w)
  (hx : ev e X = .slice a m c) (ha : ev e A = .int ka l) (hb : ev e B = .int kb h) (h0 : 0 ≤ l) (h1 : l ≤ h) (h2 : h ≤ c) (w : World) :
  (execOp (ev e) ⟨d, .slice t X (some A) (some B) none, ty, pos, af, g⟩).run P w = .ok (.value (.slice (Xg a l.toNat c sz) (h.toNat - l.toNat) (c - l.toNat))) w := by
 have hu' : P.underlying t = some (.slice (P.elem t)) := by rw [Jcs hu]; exact hu
 simp only [execOp, Option.map_some, Option.map_none, hx, ha, hb, Sem.run_bind, run_sliceAt_slice w t _ _ _ _ hu', run_slice_lh w t a m c hu' ka kb l h h0 h1 h2, Jcs hu, hs, Result.andThen_ok, Sem.run_pure, sliced, Xg]
theorem r_sliceL {d : Option Nat} {X A : Operand} {a : Option Addr} {m c : Nat} {t u sz : Nat} {ka : IntKind} {l : Int} (hu : P.underlying t = some (.slice u)) (hs : ∀ w, (sizeOf u).run P w = .ok sz w)
  (hx : ev e X = .slice a m c) (ha : ev e A = .int ka l) (h0 : 0 ≤ l) (h1 : l ≤ m) (w : World) :
  (execOp (ev e) ⟨d, .slice t X (some A) none none, ty, pos, af, g⟩).run P w = .ok (.value (.slice (Xg a l.toNat c sz) (m - l.toNat) (c - l.toNat))) w := by
 have hu' : P.underlying t = some (.slice (P.elem t)) := by rw [Jcs hu]; exact hu
 simp only [execOp, Option.map_some, Option.map_none, hx, ha, Sem.run_bind, run_sliceAt_slice w t _ _ _ _ hu', run_slice_l w t a m c hu' ka l h0 h1, Jcs hu, hs, Result.andThen_ok, Sem.run_pure, sliced, Xg]
theorem r_sliceH {d : Option Nat} {X B : Operand} {a : Option Addr} {m c : Nat} {t u sz : Nat} {kb : IntKind} {h : Int} (hu : P.underlying t = some (.slice u)) (hs : ∀ w, (sizeOf u).run P w = .ok sz w)
  (hx : ev e X = .slice a m c) (hb : ev e B = .int kb h) (h0 : 0 ≤ h) (h2 : h ≤ c) (w : World) :
  (execOp (ev e) ⟨d, .slice t X none (some B) none, ty, pos, af, g⟩).run P w = .ok (.value (.slice (Xg a 0 c sz) h.toNat c)) w := by
 have hu' : P.underlying t = some (.slice (P.elem t)) := by rw [Jcs hu]; exact hu
 simp only [execOp, Option.map_some, Option.map_none, hx, hb, Sem.run_bind, run_sliceAt_slice w t _ _ _ _ hu', run_slice_h w t a m c hu' kb h h0 h2, Jcs hu, hs, Result.andThen_ok, Sem.run_pure, sliced, Xg, Nat.sub_zero]
theorem Jem {d : Option Nat} {X B M : Operand} {a : Option Addr} {m c : Nat} {t u sz : Nat} {kb km : IntKind} {h q : Int} (hu : P.underlying t = some (.slice u)) (hs : ∀ w, (sizeOf u).run P w = .ok sz w)
  (hx : ev e X = .slice a m c) (hb : ev e B = .int kb h) (hm : ev e M = .int km q) (h0 : 0 ≤ h) (h1 : h ≤ q) (h2 : q ≤ c) (w : World) :
  (execOp (ev e) ⟨d, .slice t X none (some B) (some M), ty, pos, af, g⟩).run P w = .ok (.value (.slice (Xg a 0 q.toNat sz) h.toNat q.toNat)) w := by
 have hu' : P.underlying t = some (.slice (P.elem t)) := by rw [Jcs hu]; exact hu
 simp only [execOp, Option.map_some, Option.map_none, hx, hb, hm, Sem.run_bind, run_sliceAt_slice w t _ _ _ _ hu', run_slice_hm w t a m c hu' kb km h q h0 h1 h2, Jcs hu, hs, Result.andThen_ok, Sem.run_pure, sliced, Xg, Nat.sub_zero]
theorem Jad {α : Type} {f : α → List Value} {ys ls : List α} {i k b : Nat} {S X : Operand} {t E T : TypeId} {I : TypeInfo} {z : Value} {sz by_ : Nat} {p : Option Addr × Nat} {m q : Nat} {cs : List Value} {xs : List (List Value)}
  (ht : P.underlying t = some (.slice E)) (hi : P.info? E = some I) (hz : I.zero = some z) (hsize : I.size = sz) (hby : I.bytes = by_) (hzs : z.cells.size = sz) (hsz : Nat.blt 0 sz = true)
  (hL : L[i]? = some (J3 E sz (.slice p.1 m p.2) m xs)) (hxs : xs = ys.map f) (hm : m = ys.length) (hs : ev e S = .slice p.1 m p.2) (hx : ev e X = .slice (some ⟨b, 0, none⟩) q q) (hk : L[k]? = some (Jf b cs T)) (hcs : (ls.map f).flatten = cs) (hq : (ls.map f).length = q)
  (hnl : ((ls.map f).all fun x => Nat.beq x.length sz) = true) (h1 : ((ls.map f).all fun x => x.all Value.oneCell') = true) (h63 : (ys ++ ls).length * by_ ≤ 140737488355328) (hb0 : Nat.blt 0 by_ = true) :
  Turns P cx e ⟨some d, .call ⟨.builtin .append, #[S, X], #[t, t]⟩, ty, pos, af, g⟩ L i [k] (fun p' : Option Addr × Nat => .slice p'.1 (ys ++ ls).length p'.2) (fun p' => J3 E sz (.slice p'.1 (ys ++ ls).length p'.2) (ys ++ ls).length ((ys ++ ls).map f)) := by
 subst hxs hm
 exact Jgp ht hi hz hsize hby hzs hsz hL hs hx hq (fun x hx => by simpa using List.all_eq_true.1 hnl x hx) (fun w L' hF hS hj => Z8 hS ((hj k (by simp)).trans hk) hcs hnl)
  (fun x hx u hu => List.all_eq_true.1 (List.all_eq_true.1 h1 x hx) u hu) (List.map_append (f := f) (l₁ := ys) (l₂ := ls)).symm (by rw [List.length_append, ← hq, List.length_map]) (by
   have hb : 1 ≤ by_ := by have : 0 < by_ := by simpa using hb0
                           omega
   have : (ys ++ ls).length * 1 ≤ (ys ++ ls).length * by_ := Nat.mul_le_mul_left _ hb
   omega) h63
theorem capOf {w : World} {i E sz n c : Nat} {a : Option Addr} {xs : List (List Value)} (hS : Sat cx w L) (hL : L[i]? = some (J3 E sz (.slice a n c) n xs)) : n ≤ c := by
 obtain ⟨S, ⟨⟨h1, h2, h3⟩, _⟩, _⟩ := hS.at hL
 rcases h1.2 with ⟨hv, h0⟩ | ⟨g, cap, cur, hv, _, hh, hnc, _⟩
 ·simp only [Value.slice.injEq] at hv; omega
 ·simp only [Value.slice.injEq] at hv; omega
theorem own_cut {a : Option Addr} {m c l : Nat} (sz : Nat) {x y : Nat} : (Value.slice (Xg a l m sz) x c).ownBlock = (Value.slice a y c).ownBlock := by
 unfold Xg
 cases a with
 | none => split <;> rfl
 | some a =>
  split
  ·rfl
  ·simp only [Value.ownBlock, Option.map_some, Addr.add]
   split <;> rfl
theorem imp_box {b m sz : Nat} {cs : List Value} {T E : TypeId} {xs : List (List Value)} (hT : T = E) (hcs : xs.flatten = cs) (hl : (xs.all fun x => Nat.beq x.length sz) = true) (hm : xs.length = m ∧ m ≤ 9223372036854775807) :
  Imp (Jf b cs T) (J3 E sz (.slice (some ⟨b, 0, none⟩) m m) m xs) := ⟨fun S w h => by
 subst hT hcs
 have hl' : ∀ x ∈ xs, x.length = sz := fun x hx => by simpa using List.all_eq_true.1 hl x hx
 have hf := Yc xs hl'
 refine ⟨⟨⟨by rw [hf, hm.1], .inr ⟨b, m, _, rfl, Nat.zero_le _, h.2, Nat.le_refl _, by simpa [maxLen] using hm.2, by simp [hf, hm.1], ?_⟩⟩, hm.1, hl'⟩, fun c hc => ?_⟩
 ·rw [List.toList_toArray, List.take_of_length_le (by rw [hf, hm.1]; omega)]
 ·simp [Value.ownBlock] at hc; exact (h.1 c).2 hc.symm⟩
end rules
end Go.Vc

namespace Go.Vc
open Go
section rules
variable {P : Program} {n : Nat} {cx : Cx} {Q : Jae} {e : Xs} {L : List Chunk} {ops : Array Oper} {F : Xs → List Chunk → Prop} {rest : List Oper} {ss : List Kd}
variable {d : Nat} {ty : TypeId} {pos : String} {af : Array Edge} {g : Option (Nat × Bool)}
theorem Jhk {sz : Nat} : ∀ (xs : List (List Value)) (i : Nat) (x : List Value), (∀ x ∈ xs, x.length = sz) → i < xs.length → (xs.set i x).flatten = xs.flatten.take (i * sz) ++ x ++ xs.flatten.drop ((i + 1) * sz)
 | [], i, x, _, h => by simp at h
 | y :: r, 0, x, hl, _ => by
  have hy := hl y (by simp)
  simp [hy.symm]
 | y :: r, i + 1, x, hl, h => by
  have hy := hl y (by simp)
  have ih := Jhk r i x (fun z hz => hl z (by simp [hz])) (by simpa using h)
  have e1 : (y ++ r.flatten).take ((i + 1) * sz) = y ++ r.flatten.take (i * sz) := by
   rw [List.take_append, List.take_of_length_le (l := y) (by rw [Nat.succ_mul]; omega), show (i + 1) * sz - y.length = i * sz from by rw [Nat.succ_mul]; omega]
  have e2 : (y ++ r.flatten).drop ((i + 1 + 1) * sz) = r.flatten.drop ((i + 1) * sz) := by
   rw [List.drop_append, List.drop_of_length_le (l := y) (by rw [Nat.succ_mul]; omega), show (i + 1 + 1) * sz - y.length = (i + 1) * sz from by rw [Nat.succ_mul (i + 1)]; omega, List.nil_append]
  rw [List.set_cons_succ, List.flatten_cons, ih, List.flatten_cons, e1, e2]
  simp
theorem Jgc {sz : Nat} (xs : List (List Value)) (i : Nat) (x : List Value) (hl : ∀ x ∈ xs, x.length = sz) (hx : xs[i]? = some x) : x = (xs.flatten.drop (i * sz)).take sz := by
 have hxl := hl x (List.mem_of_getElem? hx)
 refine List.ext_getElem? fun j => ?_
 rcases Nat.lt_or_ge j x.length with hj | hj
 ·have := Jak xs i x (List.all_eq_true.2 fun y hy => by simpa using hl y hy) hx j x[j] (by simp [hj])
  rw [List.getElem?_take, if_pos (by omega), List.getElem?_drop, this]
  simp [hj]
 ·rw [List.getElem?_eq_none hj, List.getElem?_take, if_neg (by omega)]
theorem set_cells {sz m i j : Nat} {cur vs : List Value} {xs : List (List Value)} {x x' : List Value} (hl : ∀ x ∈ xs, x.length = sz) (ht : cur.take (m * sz) = xs.flatten) (hm : xs.length = m) (hx : xs[i]? = some x) (hc : m * sz ≤ cur.length)
  (h1 : j + vs.length ≤ x.length) (h2 : x' = x.take j ++ vs ++ x.drop (j + vs.length)) :
  (cur.take (i * sz + j) ++ vs ++ cur.drop (i * sz + j + vs.length)).take (m * sz) = (xs.set i x').flatten := by
 have hi : i < xs.length := by
  rcases Nat.lt_or_ge i xs.length with h | h
  ·exact h
  ·simp [List.getElem?_eq_none h] at hx
 have hxl := hl x (List.mem_of_getElem? hx)
 have hle : (i + 1) * sz ≤ m * sz := Nat.mul_le_mul_right _ (by omega)
 rw [Nat.succ_mul] at hle
 have hfx := Jgc xs i x hl hx
 rw [Jhk xs i x' hl hi, h2, ← ht]
 rw [← ht] at hfx
 have hTl : (cur.take (m * sz)).length = m * sz := by simp; omega
 generalize hT : cur.take (m * sz) = T at *
 have hcur : cur = T ++ cur.drop (m * sz) := by rw [← hT, List.take_append_drop]
 have hTs : T = T.take (i * sz) ++ (x ++ T.drop ((i + 1) * sz)) := by
  conv => lhs; rw [← List.take_append_drop (i * sz) T]
  rw [hfx]
  congr 1
  rw [Nat.succ_mul, ← List.drop_drop, List.take_append_drop]
 have e1 : cur.take (i * sz + j) = T.take (i * sz) ++ x.take j := by
  rw [hcur, List.take_append_of_le_length (by omega)]
  conv => lhs; rw [hTs]
  rw [List.take_append, List.take_of_length_le (by simp; omega), List.length_take, Nat.min_eq_left (by omega), Nat.add_sub_cancel_left, List.take_append_of_le_length (by omega)]
 have e2 : cur.drop (i * sz + j + vs.length) = x.drop (j + vs.length) ++ (T.drop ((i + 1) * sz) ++ cur.drop (m * sz)) := by
  conv => lhs; rw [hcur, List.drop_append_of_le_length (by omega), hTs]
  rw [List.drop_append, List.drop_of_length_le (l := T.take (i * sz)) (by simp; omega), List.length_take, Nat.min_eq_left (by omega), Nat.add_assoc, Nat.add_sub_cancel_left, List.nil_append, List.drop_append_of_le_length (by omega)]
  simp
 rw [e1, e2]
 have e3 : T.take (i * sz) ++ List.take j x ++ vs ++ (List.drop (j + vs.length) x ++ (List.drop ((i + 1) * sz) T ++ List.drop (m * sz) cur)) = (T.take (i * sz) ++ (x.take j ++ vs ++ x.drop (j + vs.length)) ++ T.drop ((i + 1) * sz)) ++ cur.drop (m * sz) := by simp
 rw [e3, List.take_append_of_le_length, List.take_of_length_le]
 ·simp only [List.length_append, List.length_take, List.length_drop]; rw [Nat.succ_mul]; omega
 ·simp only [List.length_append, List.length_take, List.length_drop]; rw [Nat.succ_mul]; omega
theorem Ji6 {T i j sz szT k m c : Nat} {A X : Operand} {x : Value} {a : Option Addr} {y y' vs : List Value} {xs : List (List Value)} {E : TypeId} {w : World} (hs : ∀ w, (sizeOf T).run P w = .ok szT w) (hp : ev e A = U0 a k) (hk : k = i * sz + j) (hx : ev e X = x) (hc : x.cells.toList = vs) (hsz : vs.length = szT)
  (hpos : Nat.blt 0 szT = true) (hone : vs.all Value.oneCell' = true) (hy : xs[i]? = some y) (hv : wr y j vs = some y') (ho : w.ownsRow 0 E sz (.slice a m c) m xs.flatten) (hm : xs.length = m) (hl : ∀ x ∈ xs, x.length = sz) :
  ∃ w', (execOp (ev e) ⟨none, .store T A X, ty, pos, af, g⟩).run P w = .ok .skip w' ∧ w'.ownsRow 0 E sz (.slice a m c) m (xs.set i y').flatten ∧ w.grownBy w' (Value.slice a m c).ownBlock := by
 have hpos' : 0 < vs.length := by rw [hsz]; simpa using hpos
 obtain ⟨h1, h2⟩ := wr_eq hv hpos'
 have hi : i < xs.length := by
  rcases Nat.lt_or_ge i xs.length with h | h
  ·exact h
  ·simp [List.getElem?_eq_none h] at hy
 rcases ho.2 with ⟨_, h0⟩ | ⟨g0, cap, cur, hv0, hb0, hh, hnc, hcm, hcs, htk⟩
 ·omega
 ·simp only [Value.slice.injEq] at hv0
  obtain ⟨rfl, _, rfl⟩ := hv0
  have hyl := hl y (List.mem_of_getElem? hy)
  have hcap : m * sz ≤ c * sz := Nat.mul_le_mul_right _ hnc
  have hle : (i + 1) * sz ≤ m * sz := Nat.mul_le_mul_right _ (by omega)
  rw [Nat.succ_mul] at hle
  have hst := run_storeCells_at P g0 k E vs 0 cur w hh (by rw [hk]; omega) (by simpa using hone)
  have hsz' : x.cells.size = szT := by rw [← hsz, ← hc]; simp
  have hp' : ev e A = .pointer (some ⟨g0, k, none⟩) := by rw [hp]; simp [U0]
  simp only [Nat.add_zero] at hst
  refine ⟨w.setRow g0 (cur.toList.take k ++ vs ++ cur.toList.drop (k + vs.length)).toArray, by
   simp only [execOp, Instr.storeAt, Instr.sureAddr, storeVar, hp', hx, Sem.run_bind, Sem.run_pure, Result.andThen_ok, hs, hsz', ne_eq, not_true_eq_false, if_false, hc, hst], ⟨?_, .inr ⟨g0, c, _, rfl, hb0, setRow_heap w g0 cur _ E _ hh, hnc, hcm, ?_, ?_⟩⟩, ⟨rfl, rfl, rfl, by simp, fun b _ hb => setRow_other w g0 b _ (fun e => hb (by simp [Value.ownBlock, e]))⟩⟩
  ·rw [Yc (sz := sz) _ (by
    intro z hz
    rcases List.mem_or_eq_of_mem_set hz with h | h
    ·exact hl z h
    ·subst h; rw [h2]; simp only [List.length_append, List.length_take, List.length_drop]; omega)]
   simp [hm]
  ·simp only [List.size_toArray, List.length_append, List.length_take, List.length_drop, Array.length_toList, hcs]
   rw [hk]; omega
  ·rw [List.toList_toArray, hk]
   exact set_cells hl htk hm hy (by simpa [hcs] using hcap) h1 h2
theorem l_storeR {q T i j sz szT k m c : Nat} {A X : Operand} {x : Value} {a : Option Addr} {y y' vs : List Value} {xs xs' : List (List Value)} {E : TypeId} (hs : ∀ w, (sizeOf T).run P w = .ok szT w)
  (hw : X1 ops ⟨none, .store T A X, ty, pos, af, g⟩ e = true) (hp : ev e A = U0 a k) (hk : k = i * sz + j) (hx : ev e X = x) (hc : x.cells.toList = vs) (hsz : vs.length = szT)
  (hpos : Nat.blt 0 szT = true) (hone : vs.all Value.oneCell' = true) (hL : L[q]? = some (J3 E sz (.slice a m c) m xs)) (hy : xs[i]? = some y) (hv : wr y j vs = some y') (hxs : xs.set i y' = xs')
  (k' : At cx (WL P n ops Q rest) e (L.set q (J3 E sz (.slice a m c) m xs'))) : At cx (WL P n ops Q (⟨none, .store T A X, ty, pos, af, g⟩ :: rest)) e L :=
 l_acts hw rfl fun w hF hS => by
  obtain ⟨S0, ⟨⟨ho, hlen, hlx⟩, hob⟩, _⟩ := hS.at hL
  obtain ⟨w', hr, h2, h3⟩ := Ji6 (P := P) (ty := ty) (pos := pos) (af := af) (g := g) hs hp hk hx hc hsz hpos hone hy hv ho hlen hlx
  subst hxs
  have hpos' : 0 < vs.length := by rw [hsz]; simpa using hpos
  obtain ⟨g1, g2⟩ := wr_eq hv hpos'
  obtain ⟨hF', hS'⟩ := hS.turnOf hF hL (C := J3 E sz (.slice a m c) m (xs.set i y')) fun S1 hp => Jas hp.2 h2 h3 (.inl rfl) (by simp [hlen]) (by
   intro z hz
   rcases List.mem_or_eq_of_mem_set hz with h | h
   ·exact hlx z h
   ·subst h; rw [g2]; have := hlx y (List.mem_of_getElem? hy); simp only [List.length_append, List.length_take, List.length_drop]; omega)
  exact ⟨w', hr, k'.out w' hF' hS'⟩
theorem Qu {T : TypeId} {I : TypeInfo} (h : ∀ w, (typeInfo T).run P w = .ok I w) : P.info? T = some I := by
 have := h default
 unfold typeInfo at this
 cases hi : P.info? T with
 | none => simp [hi] at this
 | some J => simp [hi] at this; rw [this]
abbrev str (s : List UInt8) : Value := .string ⟨s.toArray⟩
theorem Jih (s : List UInt8) : (ByteArray.mk s.toArray).toList = s := by rw [ByteArray.toList_eq]
theorem Ww {d : Option Nat} {X : Operand} {s : List UInt8} {t : TypeId} (hu : P.underlying t = some .string) (hx : ev e X = str s) (w : World) :
  (execOp (ev e) ⟨d, .call ⟨.builtin .len, #[X], #[t]⟩, ty, pos, af, g⟩).run P w = .ok (.value (.int .i64 s.length)) w := by
 rw [r_lenS hu hx]; rfl
theorem Jhe {d : Option Nat} {t t' : TypeId} {X Y : Operand} {a b : List UInt8} (hx : ev e X = str a) (hy : ev e Y = str b) (w : World) :
  (execOp (ev e) ⟨d, .binOp .eql t X Y t', ty, pos, af, g⟩).run P w = .ok (.value (.bool (decide (a = b)))) w := by
 have : (a == b) = decide (a = b) := by rw [Bool.eq_iff_iff]; simp
 simp [execOp, hx, hy, eqGuard, binOp_string_eql, this]
theorem r_neqT {d : Option Nat} {t t' : TypeId} {X Y : Operand} {a b : List UInt8} (hx : ev e X = str a) (hy : ev e Y = str b) (w : World) :
  (execOp (ev e) ⟨d, .binOp .neq t X Y t', ty, pos, af, g⟩).run P w = .ok (.value (.bool (decide (a ≠ b)))) w := by
 have : (a == b) = decide (a = b) := by rw [Bool.eq_iff_iff]; simp
 simp [execOp, hx, hy, eqGuard, binOp_string_neq, this]
theorem r_indexT {d : Option Nat} {t : TypeId} {X I : Operand} {s : List UInt8} {k : IntKind} {i : Int} (hu : P.underlying t = some .string) (hx : ev e X = str s) (hi : ev e I = .int k i) (h0 : 0 ≤ i) (h1 : i < s.length) (w : World) :
  (execOp (ev e) ⟨d, .index t X I, ty, pos, af, g⟩).run P w = .ok (.value (.int .u8 ((s.getD i.toNat 0).toNat : Nat))) w := by
 have hlt : i.toNat < s.length := by omega
 have h : (0 ≤ i ∧ i < ((ByteArray.mk s.toArray).size : Nat)) := ⟨h0, by simpa [ByteArray.size] using h1⟩
 simp only [execOp, hx, hi, Sem.run_bind, run_index_string w t _ k i hu, dif_pos h, Result.andThen_ok, Sem.run_pure]
 have : (ByteArray.mk s.toArray)[i.toNat]'(by simpa [ByteArray.size] using hlt) = s.getD i.toNat 0 := by
  rw [List.getD_eq_getElem?_getD, List.getElem?_eq_getElem hlt]; rfl
 rw [this]
theorem Jgm (s : List UInt8) (a b : Nat) : (ByteArray.mk s.toArray).extract a b = ByteArray.mk ((s.drop a).take (b - a)).toArray := ByteArray.extract_mk s a b
theorem r_cutT {d : Option Nat} {t : TypeId} {X A B : Operand} {s : List UInt8} {ka kb : IntKind} {l h : Int} (hu : P.underlying t = some .string) (hx : ev e X = str s) (ha : ev e A = .int ka l) (hb : ev e B = .int kb h) (h0 : 0 ≤ l) (h1 : l ≤ h) (h2 : h ≤ s.length) (w : World) :
  (execOp (ev e) ⟨d, .slice t X (some A) (some B) none, ty, pos, af, g⟩).run P w = .ok (.value (str ((s.drop l.toNat).take (h.toNat - l.toNat)))) w := by
 have h' := run_slice_string (P := P) w t (ByteArray.mk s.toArray) ka kb l h hu h0 h1 (by simpa [ByteArray.size] using h2)
 simp only [execOp, Option.map_some, Option.map_none, hx, ha, hb, Sem.run_bind, run_sliceAt_string w t _ _ _ _ hu, h', Result.andThen_ok, Sem.run_pure, Jgm]
theorem r_cutTo {d : Option Nat} {t : TypeId} {X B : Operand} {s : List UInt8} {kb : IntKind} {h : Int} (hu : P.underlying t = some .string) (hx : ev e X = str s) (hb : ev e B = .int kb h) (h0 : 0 ≤ h) (h2 : h ≤ s.length) (w : World) :
  (execOp (ev e) ⟨d, .slice t X none (some B) none, ty, pos, af, g⟩).run P w = .ok (.value (str (s.take h.toNat))) w := by
 have h' := run_slice_string_to_if (P := P) w t (ByteArray.mk s.toArray) kb h hu
 rw [if_pos ⟨h0, by simpa [ByteArray.size] using h2⟩] at h'
 simp only [execOp, Option.map_some, Option.map_none, hx, hb, Sem.run_bind, run_sliceAt_string w t _ _ _ _ hu, h', Result.andThen_ok, Sem.run_pure, Jgm, List.drop_zero, Nat.sub_zero]
end rules
end Go.Vc

namespace Go.Lx
open Go Go.Vc Go.Md
abbrev Jt := Nat → Option Obj
def Know (h : Jt) (w : World) (S : Nat → Prop) : Prop := ∀ b o, h b = some o → w.heap[b]? = some o ∧ ¬ S b
theorem Know.now {h : Jt} {w0 w : World} {S : Nat → Prop} (k : Know h w0 S) (hF : Fr ⟨w0, S⟩ w) (b : Nat) (o : Obj) (hb : h b = some o) : w.heap[b]? = some o := by
 obtain ⟨h1, h2⟩ := k b o hb
 have hlt : b < w0.heap.size := by
  rcases Nat.lt_or_ge b w0.heap.size with h | h
  ·exact h
  ·rw [Array.getElem?_eq_none h] at h1; cases h1
 have hn : ¬ (Cx.own ⟨w0, S⟩ b) := by
  rintro (h | h)
  ·exact absurd h (by show ¬ w0.heap.size ≤ b; omega)
  ·exact h2 h
 rw [hF.block b hn]
 exact h1
def RowH (h : Jt) (a : Option Addr) (sz : Nat) (xs : List (List Value)) : Prop :=
 xs = [] ∨ ∃ b off cs T m, a = some ⟨b, off, none⟩ ∧ h b = some (.cells cs T m) ∧ ∀ (i : Nat) (x : List Value), xs[i]? = some x → x.length = sz ∧ ∀ (j : Nat) (v : Value), x[j]? = some v → cs[off + i * sz + j]? = some v
theorem RowH.row {h : Jt} {w : World} {a : Option Addr} {sz : Nat} {xs : List (List Value)} (r : RowH h a sz xs) (k : ∀ b o, h b = some o → w.heap[b]? = some o) : Row w a sz xs := by
 rcases r with r | ⟨b, off, cs, T, m, ha, hb, r⟩
 ·exact .inl r
 ·refine .inr ⟨b, off, ha, fun i x hx => ⟨(r i x hx).1, fun j v hv => ?_⟩⟩
  have := (r i x hx).2 j v hv
  simp [World.cell?, k b _ hb, this]
structure FrS (h : Jt) (sz : Nat) (v : Value) (xs : List (List Value)) : Prop where
 out : ∃ a c, v = .slice a xs.length c ∧ xs.length ≤ c ∧ c ≤ 9223372036854775807 ∧ RowH h a sz xs
def sa : Value → Option Addr | .slice a _ _ => a | _ => none
def sc : Value → Nat | .slice _ _ c => c | _ => 0
theorem FrS.eq {h : Jt} {sz : Nat} {v : Value} {xs : List (List Value)} (f : FrS h sz v xs) : v = .slice (sa v) xs.length (sc v) := by
 obtain ⟨a, c, rfl, _⟩ := f.out; rfl
theorem FrS.len {h : Jt} {sz : Nat} {v : Value} {xs : List (List Value)} (f : FrS h sz v xs) : xs.length ≤ sc v ∧ sc v ≤ 9223372036854775807 := by
 obtain ⟨a, c, rfl, h1, h2, _⟩ := f.out; exact ⟨h1, h2⟩
theorem FrS.row {h : Jt} {sz : Nat} {v : Value} {xs : List (List Value)} (f : FrS h sz v xs) {w : World} (k : ∀ b o, h b = some o → w.heap[b]? = some o) : Row w (sa v) sz xs := by
 obtain ⟨a, c, rfl, _, _, r⟩ := f.out; exact r.row k
theorem FrS.nil (h : Jt) (sz : Nat) : FrS h sz (.slice none 0 0) [] := ⟨none, 0, rfl, by simp, by simp, .inl rfl⟩
theorem RowH.cut {h : Jt} {a : Option Addr} {sz : Nat} {xs : List (List Value)} (r : RowH h a sz xs) (l q m : Nat) (hq : l + q ≤ m) : RowH h (Xg a l m sz) sz ((xs.drop l).take q) := by
 rcases r with r | ⟨b, off, cs, T, m', rfl, hb, r⟩
 ·subst r; exact .inl (by simp)
 ·unfold Xg
  by_cases hm : m = l
  ·have hq0 : q = 0 := by omega
   subst hq0
   exact .inl (by simp)
  ·rw [if_neg hm]
   refine .inr ⟨b, off + l * sz, cs, T, m', by simp [Addr.add_lit], hb, fun i x hx => ?_⟩
   rw [List.getElem?_take] at hx
   split at hx
   ·rw [List.getElem?_drop] at hx
    obtain ⟨h1, h2⟩ := r (l + i) x hx
    refine ⟨h1, fun j v hv => ?_⟩
    have := h2 j v hv
    rw [show off + l * sz + i * sz + j = off + (l + i) * sz + j from by rw [Nat.add_mul]; omega]
    exact this
   ·cases hx
def cutV (sz : Nat) (v : Value) (l h : Int) : Value := .slice (Xg (sa v) l.toNat (sc v) sz) (h.toNat - l.toNat) (sc v - l.toNat)
theorem FrS.cut {α : Type} {h : Jt} {sz : Nat} {v : Value} {f : α → List Value} {xs ys : List α} {l q : Int} (s : FrS h sz v (xs.map f)) (e : Xr xs l q = some ys) : FrS h sz (cutV sz v l q) (ys.map f) := by
 obtain ⟨a, c, rfl, h1, h2, r⟩ := s.out
 obtain ⟨g0, g1, g2, rfl⟩ := Zv e
 have hl : ((xs.drop l.toNat).take (q.toNat - l.toNat)).length = q.toNat - l.toNat := by
  rw [List.length_take, List.length_drop]; omega
 simp only [List.length_map] at h1
 refine ⟨⟨Xg a l.toNat c sz, c - l.toNat, ?_, ?_, by omega, ?_⟩⟩
 ·simp only [cutV, sa, sc, List.length_map, hl]
 ·rw [List.length_map, hl]; omega
 ·rw [List.map_take, List.map_drop]
  exact r.cut _ _ _ (by omega)
theorem FrS.mono {h h' : Jt} {sz : Nat} {v : Value} {xs : List (List Value)} (s : FrS h sz v xs) (le : ∀ b o, h b = some o → h' b = some o) : FrS h' sz v xs := by
 obtain ⟨a, c, rfl, h1, h2, r⟩ := s.out
 refine ⟨a, c, rfl, h1, h2, ?_⟩
 rcases r with r | ⟨b, off, cs, T, m, ha, hb, r⟩
 ·exact .inl r
 ·exact .inr ⟨b, off, cs, T, m, ha, le b _ hb, r⟩
section ops
variable {P : Program} {e : Xs} {d : Option Nat} {ty : TypeId} {pos : String} {af : Array Edge} {g : Option (Nat × Bool)}
section bin
variable {X Y : Operand} {x y z : Int} {t t' : TypeId} {kd k2 : IntKind}
theorem J4 (hx : ev e X = .int .i64 x) (hy : ev e Y = .int .i64 y) (h : gI (x + y) = some z) (w : World) :
  (execOp (ev e) ⟨d, .binOp .add t X Y t', ty, pos, af, g⟩).run P w = .ok (.value (.int .i64 z)) w := by
 obtain ⟨rfl, hb⟩ := Jgw h; exact r_add hx hy hb w
theorem Un (hx : ev e X = .int .i64 x) (hy : ev e Y = .int .i64 y) (h : gI (x - y) = some z) (w : World) :
  (execOp (ev e) ⟨d, .binOp .sub t X Y t', ty, pos, af, g⟩).run P w = .ok (.value (.int .i64 z)) w := by
 obtain ⟨rfl, hb⟩ := Jgw h; exact r_sub hx hy hb w
theorem Vs (hx : ev e X = .int .i64 x) (hy : ev e Y = .int .i64 y) (h : gI (x * y) = some z) (w : World) :
  (execOp (ev e) ⟨d, .binOp .mul t X Y t', ty, pos, af, g⟩).run P w = .ok (.value (.int .i64 z)) w := by
 obtain ⟨rfl, hb⟩ := Jgw h; exact r_mul hx hy hb w
theorem r_quoG (hx : ev e X = .int .i64 x) (hy : ev e Y = .int .i64 y) (h : gQuo x y = some z) (w : World) :
  (execOp (ev e) ⟨d, .binOp .quo t X Y t', ty, pos, af, g⟩).run P w = .ok (.value (.int .i64 z)) w := by
 obtain ⟨h0, rfl, hb⟩ := gQuo_some h
 exact Jd1 hx hy (fun w => by simp [binOp, Op.intDiv, h0, IntWalk.i64_in _ hb]) w
theorem r_remG (hx : ev e X = .int kd x) (hy : ev e Y = .int kd y) (h : gRem x y = some z) (w : World) :
  (execOp (ev e) ⟨d, .binOp .rem t X Y t', ty, pos, af, g⟩).run P w = .ok (.value (.int kd z)) w := by
 obtain ⟨h0, rfl⟩ := gRem_some h; exact r_rem hx hy h0 w
end bin
theorem Va {X : Operand} {t u sz : TypeId} {h : Jt} {v : Value} {xs : List (List Value)} {α : Type} {ys : List α} {f : α → List Value} (hu : P.underlying t = some (.slice u)) (hx : ev e X = v) (hs : FrS h sz v xs) (hxs : xs = ys.map f) (w : World) :
  (execOp (ev e) ⟨d, .call ⟨.builtin .len, #[X], #[t]⟩, ty, pos, af, g⟩).run P w = .ok (.value (.int .i64 ys.length)) w := by
 have := Ur (P := P) (d := d) (ty := ty) (pos := pos) (af := af) (g := g) hu (hx.trans hs.eq) w
 rw [this, hxs, List.length_map]
theorem Q2 {X I : Operand} {t u sz : Nat} {h : Jt} {v : Value} {α : Type} {f : α → List Value} {xs : List α} {x : α} {k : IntKind} {i : Int} (hu : P.underlying t = some (.slice u)) (hs : ∀ w, (sizeOf u).run P w = .ok sz w)
  (hx : ev e X = v) (hi : ev e I = .int k i) (hf : FrS h sz v (xs.map f)) (hg : Q9 xs i = some x) (w : World) :
  (execOp (ev e) ⟨d, .indexAddr t X I, ty, pos, af, g⟩).run P w = .ok (.value (U0 (sa v) (i.toNat * sz))) w := by
 obtain ⟨h0, h1, h2⟩ := Y3 hg
 obtain ⟨a, c, rfl, _, _, r⟩ := hf.out
 have ha : ∃ b off, a = some ⟨b, off, none⟩ := by
  rcases r with r | ⟨b, off, cs, T, m, ha, _⟩
  ·simp at r; subst r; simp at h1
  ·exact ⟨b, off, ha⟩
 exact r_index hu hs hx hi ha h0 (by rw [List.length_map]; omega) w
theorem Z9 {h : Jt} {sz : Nat} {v : Value} {α : Type} {f : α → List Value} {xs : List α} {x : α} {i : Int} (hf : FrS h sz v (xs.map f)) (hg : Q9 xs i = some x) : ∃ b off, sa v = some ⟨b, off, none⟩ := by
 obtain ⟨h0, h1, h2⟩ := Y3 hg
 obtain ⟨a, c, rfl, _, _, r⟩ := hf.out
 rcases r with r | ⟨b, off, cs, T, m, ha, _⟩
 ·simp at r; subst r; simp at h1
 ·exact ⟨b, off, ha⟩
theorem map_at {α : Type} {f : α → List Value} {xs : List α} {x : α} {i : Int} (hg : Q9 xs i = some x) : (xs.map f)[i.toNat]? = some (f x) := by
 obtain ⟨h0, h1, h2⟩ := Y3 hg
 rw [List.getElem?_map, h2]; rfl
theorem Ux {X I : Operand} {a : Option Addr} {m c : Nat} {t u sz sz' : Nat} {k : IntKind} {i : Int} {α : Type} {f : α → List Value} {xs : List α} {x : α} {w : World} (hu : P.underlying t = some (.slice u)) (hs : ∀ w, (sizeOf u).run P w = .ok sz w)
  (hx : ev e X = .slice a m c) (hi : ev e I = .int k i) (hR : Row w a sz' (xs.map f)) (hm : m = xs.length) (hg : Q9 xs i = some x) :
  (execOp (ev e) ⟨d, .indexAddr t X I, ty, pos, af, g⟩).run P w = .ok (.value (U0 a (i.toNat * sz))) w := by
 obtain ⟨h0, h1, h2⟩ := Y3 hg
 exact r_index hu hs hx hi (hR.some (i := i.toNat) (by simpa using h1)) h0 (by omega) w
theorem Qt {T k : Nat} {a : Option Addr} {A : Operand} {sz j : Nat} {α : Type} {f : α → List Value} {xs : List α} {x : α} {i : Int} {v : Value} {w : World} (hA : ∀ w, (isAgg T).run P w = .ok false w)
  (hp : ev e A = U0 a k) (hk : k = i.toNat * sz + j) (hr : Row w a sz (xs.map f)) (hg : Q9 xs i = some x) (hv : rg (f x) j = some v) :
  (execOp (ev e) ⟨d, .load T A, ty, pos, af, g⟩).run P w = .ok (.value v) w :=
 run_loadP1 (i := i.toNat) (j := j) hA hp hk hr (map_at hg) hv
theorem Y2 {T k m : Nat} {a : Option Addr} {A : Operand} {sz j : Nat} {α : Type} {f : α → List Value} {xs : List α} {x : α} {i : Int} {vs : List Value} {w : World} (hA : ∀ w, (isAgg T).run P w = .ok true w) (hs : ∀ w, (sizeOf T).run P w = .ok m w)
  (hp : ev e A = U0 a k) (hk : k = i.toNat * sz + j) (hr : Row w a sz (xs.map f)) (hg : Q9 xs i = some x) (hv : rd (f x) j m = some vs) :
  (execOp (ev e) ⟨d, .load T A, ty, pos, af, g⟩).run P w = .ok (.value (.agg vs.toArray)) w :=
 run_loadPN (i := i.toNat) (j := j) hA hs hp hk hr (map_at hg) hv
theorem Jcv {t : TypeId} {X I : Operand} {s : List UInt8} {k : IntKind} {i c : Int} (hu : P.underlying t = some .string) (hx : ev e X = str s) (hi : ev e I = .int k i) (h : gOct s i = some c) (w : World) :
  (execOp (ev e) ⟨d, .index t X I, ty, pos, af, g⟩).run P w = .ok (.value (.int .u8 c)) w := by
 obtain ⟨h0, h1, rfl⟩ := gOct_some h; exact r_indexT hu hx hi h0 h1 w
theorem Jhv {t : TypeId} {X A B : Operand} {s u : List UInt8} {ka kb : IntKind} {l h : Int} (hu : P.underlying t = some .string) (hx : ev e X = str s) (ha : ev e A = .int ka l) (hb : ev e B = .int kb h) (hg : Xr s l h = some u) (w : World) :
  (execOp (ev e) ⟨d, .slice t X (some A) (some B) none, ty, pos, af, g⟩).run P w = .ok (.value (str u)) w := by
 obtain ⟨h0, h1, h2, rfl⟩ := Zv hg; exact r_cutT hu hx ha hb h0 h1 h2 w
theorem Jgk {t : TypeId} {X B : Operand} {s u : List UInt8} {kb : IntKind} {h : Int} (hu : P.underlying t = some .string) (hx : ev e X = str s) (hb : ev e B = .int kb h) (hg : Xr s 0 h = some u) (w : World) :
  (execOp (ev e) ⟨d, .slice t X none (some B) none, ty, pos, af, g⟩).run P w = .ok (.value (str u)) w := by
 obtain ⟨h0, h1, h2, rfl⟩ := Zv hg
 have := r_cutTo (P := P) (d := d) (ty := ty) (pos := pos) (af := af) (g := g) hu hx hb h1 h2 w
 simpa using this
end ops
section rules
variable {P : Program} {n : Nat} {cx : Cx} {Q : Jae} {e : Xs} {L : List Chunk} {ops : Array Oper} {F : Xs → List Chunk → Prop} {rest : List Oper} {ss : List Kd}
structure RoundA {σ τ : Type} (cx : Cx) (st : σ → τ → List (Nat × Value)) (hp : σ → τ → List Chunk) (I : σ → τ → Nat → Prop) (m : Nat) (e : Xs) (w : World) : Prop where
 out : ∃ s t k, Jgf e (st s t) ∧ Fr cx w ∧ Sat cx w (hp s t) ∧ I s t k ∧ k < m
theorem Zz {σ τ ρ : Type} {c : Code} {r : ρ} (B : (σ → Option ρ) → σ → Option ρ) (st : σ → τ → List (Nat × Value)) (hp : σ → τ → List Chunk) (G : σ → τ → Prop) (s0 : σ) (t0 : τ) (sel : List Nat)
  (H : Wq B s0 = some r) (hG : G s0 t0) (hst : Jgf e (st s0 t0)) (hnd : sel.Nodup) (hL : sel.map (fun i => L[i]?) = (hp s0 t0).map some)
  (round : ∀ (s : σ) (t : τ) (m : Nat) (g : Xs), B (it B m) s = some r → G s t →
   At cx (WC P n c (ThenQ (RoundA cx st hp (fun s t k => it B k s = some r ∧ G s t) (m + 1)) Q)) (mkE (st s t) g) (hp s t)) :
  At cx (WC P n (.loop c) Q) e L :=
 ⟨fun w hF hS => ⟨fun a ha => by
  obtain ⟨m0, hm0⟩ := Jfx H
  refine wp_loop_ghost (fun m a' w' => ∃ e' s t, Sim n a' e' ∧ Jgf e' (st s t) ∧ Fr cx w' ∧ Sat cx w' (hp s t) ∧ it B m s = some r ∧ G s t) m0 ⟨e, s0, t0, ha, hst, hF, hS.select sel hnd hL, hm0, hG⟩ ?_
  rintro m a w ⟨e', s, t, ha, hst, hF, hS, hI, hg⟩
  cases m with
  | zero => cases hI
  | succ m =>
   have hr := ((round s t m e' hI hg).out w hF hS).out a (by rw [Jii e' _ hst]; exact ha)
   refine wp_mono hr ?_
   rintro x a' w' ⟨e'', hs', hq⟩
   cases x with
   | normal =>
    obtain ⟨s', t', m', h1, h3, h4, ⟨h5, h7⟩, h6⟩ := hq.out
    exact ⟨m', h6, e'', s', t', hs', h1, h3, h4, h5, h7⟩
   | exit i => exact ⟨e'', hs', hq⟩
   | goto i => exact ⟨e'', hs', hq⟩
   | ret => exact ⟨e'', hs', hq⟩
   | panic i => exact ⟨e'', hs', hq⟩
   | outgrown => exact ⟨e'', hs', hq⟩⟩⟩
theorem Jhp {σ τ : Type} {st : σ → τ → List (Nat × Value)} {hp : σ → τ → List Chunk} {I : σ → τ → Nat → Prop} {m : Nat} (s : σ) (t : τ) (k : Nat) (sel : List Nat) (hst : Jgf e (st s t)) (hnd : sel.Nodup) (hL : sel.map (fun i => L[i]?) = (hp s t).map some) (hI : I s t k) (hm : k < m) :
  At cx (RoundA cx st hp I m) e L :=
 ⟨fun _ hF hS => ⟨s, t, k, hst, hF, hS.select sel hnd hL, hI, hm⟩⟩
theorem Qx {σ τ ρ : Type} {x y : Code} {r : ρ} (J : σ → Option ρ) (st : σ → τ → List (Nat × Value)) (hp : σ → τ → List Chunk) (G : σ → τ → Prop)
  (h1 : At cx (WC P n x (ThenQ (RoundA cx st hp (fun s t _ => J s = some r ∧ G s t) 1) Q)) e L)
  (h2 : ∀ (s : σ) (t : τ) (g : Xs), J s = some r → G s t → At cx (WC P n y Q) (mkE (st s t) g) (hp s t)) : At cx (WC P n (.seq x y) Q) e L :=
 Jc ⟨fun w hF hS => ⟨fun a ha => Code.wp_mono (fun x' a' w' hq => by
  obtain ⟨e', hs, hq⟩ := hq
  cases x' with
  | normal =>
   obtain ⟨s, t, m, g1, g3, g4, ⟨g5, g7⟩, _⟩ := hq.out
   exact ⟨e', hs, by
    have := (h2 s t e' g5 g7).out w' g3 g4
    rwa [Jii e' _ g1] at this⟩
  | exit i => exact ⟨e', hs, hq⟩
  | goto i => exact ⟨e', hs, hq⟩
  | ret => exact ⟨e', hs, hq⟩
  | panic i => exact ⟨e', hs, hq⟩
  | outgrown => exact ⟨e', hs, hq⟩) ((h1.out w hF hS).out a ha)⟩⟩
theorem Jm (w : World) : Know (fun b => w.heap[b]?) w Z2 := fun b o h => ⟨h, fun x => x⟩
theorem Xq {α : Type} {w : World} {i E sz n : Nat} {p : Option Addr × Nat} {xs : List α} {f : α → List Value} (hn : n = xs.length) (hS : Sat cx w L) (hL : L[i]? = some (J3 E sz (.slice p.1 n p.2) n (xs.map f))) : FrS (fun b => w.heap[b]?) sz (.slice p.1 n p.2) (xs.map f) := by
 subst hn
 obtain ⟨S, ⟨⟨h1, h2, h3⟩, _⟩, _⟩ := hS.at hL
 have hr := Jeg h1 h2 h3
 rcases h1.2 with ⟨hv, h0⟩ | ⟨g, cap, cur, hv, _, hh, hnc, hm, hcs, ht⟩
 ·simp only [Value.slice.injEq] at hv
  have hxs : xs = [] := List.eq_nil_of_length_eq_zero h0
  subst hxs
  refine ⟨⟨p.1, p.2, by simp, by simp, by omega, .inl (by simp)⟩⟩
 ·simp only [Value.slice.injEq] at hv
  obtain ⟨hp, _, hc⟩ := hv
  refine ⟨⟨p.1, p.2, by simp, by rw [List.length_map, hc]; exact hnc, by rw [hc]; simpa [maxLen] using hm, ?_⟩⟩
  rcases hr with hr | ⟨b, off, ha, hr⟩
  ·exact .inl hr
  ·rw [hp] at ha
   simp only [Option.some.injEq, Addr.mk.injEq] at ha
   obtain ⟨rfl, rfl, _⟩ := ha
   refine .inr ⟨g, 0, cur, E, _, hp, hh, fun i x hx => ⟨(hr i x hx).1, fun j v hv => ?_⟩⟩
   have := (hr i x hx).2 j v hv
   simpa [World.cell?, hh] using this
theorem frs_box {α : Type} {w : World} {i b m T sz : Nat} {cs : List Value} {xs : List α} {f : α → List Value} (hS : Sat cx w L) (hL : L[i]? = some (Jf b cs T)) (hcs : (xs.map f).flatten = cs) (hl : ((xs.map f).all fun x => Nat.beq x.length sz) = true) (hm : xs.length = m) (hm' : Nat.ble m 9223372036854775807 = true) :
  FrS (fun b => w.heap[b]?) sz (.slice (some ⟨b, 0, none⟩) m m) (xs.map f) := by
 subst hm
 refine ⟨⟨some ⟨b, 0, none⟩, xs.length, by simp, by simp, by simpa using hm', .inr ⟨b, 0, cs.toArray, T, (0, 0), rfl, Qp hS hL, fun i x hx => ⟨?_, fun j v hv => ?_⟩⟩⟩⟩
 ·have := List.all_eq_true.1 hl x (List.mem_of_getElem? hx)
  simpa using this
 ·have := Jak _ i x hl hx j v hv
  rw [hcs] at this
  simpa using this
end rules
end Go.Lx

namespace Go.Lx
open Go Go.Vc Go.Md
theorem wr_u8 (x : Int) : IntKind.u8.wrap x = wU8 x := by simp [IntKind.wrap, IntKind.bits, IntKind.signed, wU8]
theorem wr_u64 (x : Int) : IntKind.u64.wrap x = wU64 x := by simp [IntKind.wrap, IntKind.bits, IntKind.signed, wU64]
theorem wr_i32 (x : Int) : IntKind.i32.wrap x = wI32 x := by simp [IntKind.wrap, IntKind.bits, IntKind.signed, wI32]
theorem wr_i64 (x : Int) : IntKind.i64.wrap x = U6 x := by simp [IntKind.wrap, IntKind.bits, IntKind.signed, U6]
theorem gK_i64 {x y : Int} (h : gK (-9223372036854775808) 9223372036854775807 x = some y) : IntKind.i64.wrap x = y := by obtain ⟨rfl, h⟩ := gK_some h; rw [wr_i64]; unfold U6; split <;> omega
section ops
variable {P : Program} {e : Xs} {d : Option Nat} {ty : TypeId} {pos : String} {af : Array Edge} {g : Option (Nat × Bool)}
section bin
variable {X Y : Operand} {x y z u : Int} {t t' : TypeId} {kd k2 : IntKind} {bits : Nat}
theorem r_bin2 {op : BinOp} {v : Value} (hx : ev e X = .int kd x) (hy : ev e Y = .int k2 y) (hg : ∀ w, (eqGuard op t X Y (.int kd x) (.int k2 y)).run P w = .ok () w)
  (hr : ∀ w, (binOp op t (.int kd x) (.int k2 y)).run P w = .ok v w) (w : World) :
  (execOp (ev e) ⟨d, .binOp op t X Y t', ty, pos, af, g⟩).run P w = .ok (.value v) w := by
 simp [execOp, hx, hy, hg, hr]
theorem r_shlG (hx : ev e X = .int .i64 x) (hy : ev e Y = .int k2 y) (h : gShl x y = some z) (w : World) :
  (execOp (ev e) ⟨d, .binOp .shl t X Y t', ty, pos, af, g⟩).run P w = .ok (.value (.int .i64 z)) w := by
 obtain ⟨h0, h1, rfl, hb⟩ := gShl_some h
 refine r_bin2 hx hy (fun w => rfl) (fun w => ?_) w
 have h2 : min y.toNat IntKind.i64.bits = y.toNat := by show min y.toNat 64 = y.toNat; omega
 have hn : ¬ y < 0 := by omega
 rw [binOp_shl]
 unfold Op.shift
 rw [if_neg hn]
 simp only [h2, IntWalk.i64_in _ hb, Sem.run_pure]
theorem r_shrG (hx : ev e X = .int kd x) (hy : ev e Y = .int k2 y) (hbits : kd.bits = bits) (h : gShr bits x y = some z) (w : World) :
  (execOp (ev e) ⟨d, .binOp .shr t X Y t', ty, pos, af, g⟩).run P w = .ok (.value (.int kd z)) w := by
 subst hbits
 unfold gShr at h; split at h
 ·cases h
  refine r_bin2 hx hy (fun w => rfl) (fun w => ?_) w
  have hf : x.fdiv (2 ^ min y.toNat kd.bits) = x / 2 ^ min y.toNat kd.bits := Int.fdiv_eq_ediv_of_nonneg _ (Int.pow_nonneg (by omega))
  have hn : ¬ y < 0 := by omega
  rw [show binOp .shr t (.int kd x) (.int k2 y) = Op.shift .shr kd x k2 y from rfl]
  unfold Op.shift
  rw [if_neg hn]
  simp only [hf, Sem.run_pure]
 ·cases h
theorem r_bitsOr (hx : ev e X = .int kd x) (hy : ev e Y = .int kd y) (hbits : kd.bits = bits) (hw : kd.wrap (bOr bits x y) = z) (w : World) :
  (execOp (ev e) ⟨d, .binOp .or t X Y t', ty, pos, af, g⟩).run P w = .ok (.value (.int kd z)) w := by
 subst hbits hw
 exact Jd1 hx hy (fun w => by rw [binOp_or]; rfl) w
end bin
theorem Jco {X : Operand} {s t : TypeId} {k0 k1 : IntKind} {x y : Int} {su : TypeDesc} (hs : ∀ w, (underlying s).run P w = .ok su w) (ht : ∀ w, (underlying t).run P w = .ok (.int k1) w)
  (hx : ev e X = .int k0 x) (hr : k1.wrap x = y) (w : World) :
  (execOp (ev e) ⟨d, .convert s t X, ty, pos, af, g⟩).run P w = .ok (.value (.int k1 y)) w := by
 subst hr
 simp [execOp, hx, convert, hs, ht, Conv.intToInt]
theorem Jg9 (w : World) (d t : Nat) (a b : List UInt8) (h : P.underlying t = some .string) : (Op.equalIn (d + 1) t (str a) (str b)).run P w = .ok (decide (a = b)) w := by
 rw [run_equalIn_string (h := h)]
 have : ((ByteArray.mk a.toArray).toList == (ByteArray.mk b.toArray).toList) = decide (a = b) := by
  rw [Jih, Jih, Bool.eq_iff_iff]; simp
 rw [this]
theorem r_indexS {X I : Operand} {b m c : Nat} {t u sz : Nat} {k : IntKind} {i : Int} {α : Type} {xs : List α} {x : α} (hu : P.underlying t = some (.slice u)) (hs : ∀ w, (sizeOf u).run P w = .ok sz w)
  (hx : ev e X = .slice (some ⟨b, 0, none⟩) m c) (hi : ev e I = .int k i) (hg : Q9 xs i = some x) (hm : xs.length = m) (w : World) :
  (execOp (ev e) ⟨d, .indexAddr t X I, ty, pos, af, g⟩).run P w = .ok (.value (U0 (some ⟨b, 0, none⟩) (i.toNat * sz))) w := by
 obtain ⟨h0, h1, _⟩ := Y3 hg
 exact r_index hu hs hx hi ⟨_, _, rfl⟩ h0 (by omega) w
theorem r_sliceLHF {α : Type} {h : Jt} {f : α → List Value} {X A B : Operand} {v : Value} {xs ys : List α} {t u sz : Nat} {ka kb : IntKind} {l q : Int} (hu : P.underlying t = some (.slice u)) (hs : ∀ w, (sizeOf u).run P w = .ok sz w)
  (hx : ev e X = v) (ha : ev e A = .int ka l) (hb : ev e B = .int kb q) (s : FrS h sz v (xs.map f)) (hg : Xr xs l q = some ys) (w : World) :
  (execOp (ev e) ⟨d, .slice t X (some A) (some B) none, ty, pos, af, g⟩).run P w = .ok (.value (cutV sz v l q)) w := by
 obtain ⟨g0, g1, g2, _⟩ := Zv hg
 have hl := s.len; simp only [List.length_map] at hl
 rw [r_sliceLH hu hs (hx.trans s.eq) ha hb g0 g1 (by omega) w, cutV]
end ops
section rules
variable {P : Program} {n : Nat} {cx : Cx} {Q : Jae} {e : Xs} {L : List Chunk} {ops : Array Oper} {F : Xs → List Chunk → Prop} {rest : List Oper} {ss : List Kd}
variable {d : Nat} {ty : TypeId} {pos : String} {af : Array Edge} {g : Option (Nat × Bool)}
def Jv (C D : Chunk) : Chunk where
 P S w := ∃ S1 S2 : Nat → Prop, C.P S1 w ∧ D.P S2 w ∧ (∀ b, S1 b → S b) ∧ (∀ b, S2 b → S b) ∧ ∀ b, S1 b → ¬ S2 b
 loc S w w' h := by
  rintro ⟨S1, S2, h1, h2, h3, h4, h5⟩
  exact ⟨S1, S2, C.loc _ _ _ (fun b hb => h b (h3 b hb)) h1, D.loc _ _ _ (fun b hb => h b (h4 b hb)) h2, h3, h4, h5⟩
theorem Qj {K : Xs → World → Prop} (i : Nat) {C D : Chunk} (hL : L[i]? = some (Jv C D)) (k : At cx K e (L.set i C ++ [D])) : At cx K e L :=
 ⟨fun w hF hS => k.out w hF (by
  obtain ⟨fp, h1, h2, h3⟩ := hS.out
  obtain ⟨S1, S2, k1, k2, k3, k4, k5⟩ := h1 i _ hL
  have hil : i < L.length := by
   rcases Nat.lt_or_ge i L.length with h | h
   ·exact h
   ·simp [List.getElem?_eq_none h] at hL
  refine ⟨fun j b => if j = i then S1 b else if j = L.length then S2 b else fp j b, ?_, ?_, ?_⟩
  ·intro j c hc
   by_cases hj : j = L.length
   ·subst hj
    rw [List.getElem?_append_right (by simp)] at hc
    simp at hc
    subst hc
    have : ¬ L.length = i := by omega
    simpa [this] using k2
   ·have hjl : j < L.length := by
     rcases Nat.lt_or_ge j L.length with h | h
     ·exact h
     ·rw [List.getElem?_append_right (by simpa using h)] at hc
      rw [List.getElem?_eq_none (by simp; omega)] at hc
      cases hc
    rw [List.getElem?_append_left (by simpa using hjl)] at hc
    by_cases hji : j = i
    ·subst hji
     rw [List.getElem?_set_self hil] at hc
     cases hc
     simpa using k1
    ·rw [List.getElem?_set_ne (fun h => hji h.symm)] at hc
     simpa [hji, hj] using h1 j c hc
  ·intro j b hb
   by_cases hji : j = i
   ·simp only [hji, if_true] at hb
    have := h2 i b (k3 b hb)
    exact ⟨by simp; omega, this.2⟩
   ·by_cases hj : j = L.length
    ·subst hj
     have hne : ¬ L.length = i := by omega
     simp only [hne, if_true, if_false] at hb
     exact ⟨by simp, (h2 i b (k4 b hb)).2⟩
    ·simp only [hji, hj, if_false] at hb
     obtain ⟨a1, a2⟩ := h2 j b hb
     exact ⟨by simp; omega, a2⟩
  ·intro j q b hj hq
   have key : ∀ j, (if j = i then S1 b else if j = L.length then S2 b else fp j b) → (j = i ∧ S1 b) ∨ (j = L.length ∧ j ≠ i ∧ S2 b) ∨ (j ≠ i ∧ j ≠ L.length ∧ fp j b) := by
    intro j h
    by_cases hji : j = i
    ·simp only [hji, if_true] at h; exact .inl ⟨hji, h⟩
    ·by_cases hjl : j = L.length
     ·simp only [hji, hjl, if_true, if_false] at h
      have hne : ¬ L.length = i := by omega
      simp only [hne, if_false] at h
      exact .inr (.inl ⟨hjl, hji, h⟩)
     ·simp only [hji, hjl, if_false] at h; exact .inr (.inr ⟨hji, hjl, h⟩)
   rcases key j hj with ⟨a1, a2⟩ | ⟨a1, a0, a2⟩ | ⟨a1, a3, a2⟩ <;> rcases key q hq with ⟨c1, c2⟩ | ⟨c1, c0, c2⟩ | ⟨c1, c3, c2⟩
   ·omega
   ·exact absurd c2 (k5 b a2)
   ·exact absurd (h3 i q b (k3 b a2) c2) (fun h => c1 h.symm)
   ·exact absurd a2 (k5 b c2)
   ·omega
   ·exact absurd (h3 i q b (k4 b a2) c2) (fun h => c1 h.symm)
   ·exact absurd (h3 i j b (k3 b c2) a2) (fun h => a1 h.symm)
   ·exact absurd (h3 i j b (k4 b c2) a2) (fun h => a1 h.symm)
   ·exact h3 j q b a2 c2)⟩
theorem Jd4 {K : Xs → World → Prop} (i j : Nat) {C D : Chunk} (hi : L[i]? = some C) (hj : L[j]? = some D) (hne : i ≠ j) (k : At cx K e ((L.set i (Jv C D)).set j empC)) : At cx K e L :=
 ⟨fun w hF hS => k.out w hF (by
  obtain ⟨fp, h1, h2, h3⟩ := hS.out
  have hil : i < L.length := by
   rcases Nat.lt_or_ge i L.length with h | h
   ·exact h
   ·simp [List.getElem?_eq_none h] at hi
  have hjl : j < L.length := by
   rcases Nat.lt_or_ge j L.length with h | h
   ·exact h
   ·simp [List.getElem?_eq_none h] at hj
  refine ⟨fun q b => if q = i then fp i b ∨ fp j b else if q = j then False else fp q b, ?_, ?_, ?_⟩
  ·intro q c hc
   by_cases hqj : q = j
   ·subst hqj
    rw [List.getElem?_set_self (by simpa using hjl)] at hc
    cases hc
    have : ¬ q = i := fun h => hne h.symm
    simp only [this, if_true, if_false]
    exact fun b h => h
   ·rw [List.getElem?_set_ne (fun h => hqj h.symm)] at hc
    by_cases hqi : q = i
    ·subst hqi
     rw [List.getElem?_set_self hil] at hc
     cases hc
     simp only [if_true]
     exact ⟨fp q, fp j, h1 q C hi, h1 j D hj, fun b h => .inl h, fun b h => .inr h, fun b a c => hne (h3 q j b a c)⟩
    ·rw [List.getElem?_set_ne (fun h => hqi h.symm)] at hc
     simp only [hqi, hqj, if_false]
     exact h1 q c hc
  ·intro q b hb
   by_cases hqi : q = i
   ·simp only [hqi, if_true] at hb
    refine ⟨by simp [hqi, hil], ?_⟩
    rcases hb with hb | hb
    ·exact (h2 i b hb).2
    ·exact (h2 j b hb).2
   ·by_cases hqj : q = j
    ·have hji : ¬ j = i := fun h => hne h.symm
     simp only [hqj, hji, if_true, if_false] at hb
    ·simp only [hqi, hqj, if_false] at hb
     obtain ⟨a1, a2⟩ := h2 q b hb
     exact ⟨by simpa using a1, a2⟩
  ·intro p q b hp hq
   have key : ∀ q, (if q = i then fp i b ∨ fp j b else if q = j then False else fp q b) → (q = i ∧ (fp i b ∨ fp j b)) ∨ (q ≠ i ∧ q ≠ j ∧ fp q b) := by
    intro q h
    by_cases hqi : q = i
    ·simp only [hqi, if_true] at h; exact .inl ⟨hqi, h⟩
    ·by_cases hqj : q = j
     ·have hji : ¬ j = i := fun h => hne h.symm
      simp only [hqj, hji, if_true, if_false] at h
     ·simp only [hqi, hqj, if_false] at h; exact .inr ⟨hqi, hqj, h⟩
   rcases key p hp with ⟨a1, a2⟩ | ⟨a1, a3, a2⟩ <;> rcases key q hq with ⟨c1, c2⟩ | ⟨c1, c3, c2⟩
   ·omega
   ·rcases a2 with a2 | a2
    ·exact absurd (h3 i q b a2 c2) (fun h => c1 h.symm)
    ·exact absurd (h3 j q b a2 c2) (fun h => c3 h.symm)
   ·rcases c2 with c2 | c2
    ·exact absurd (h3 i p b c2 a2) (fun h => a1 h.symm)
    ·exact absurd (h3 j p b c2 a2) (fun h => a3 h.symm)
   ·exact h3 p q b a2 c2)⟩
def roV (sz : Nat) (v : Value) (n : Nat) (xs : List (List Value)) : Chunk where
 P S w := n = xs.length ∧ FrS (fun b => w.heap[b]?) sz v xs ∧ ∀ b, v.ownBlock = some b → S b
 loc S w w' h := by
  rintro ⟨h1, h2, h3⟩
  refine ⟨h1, ?_, h3⟩
  obtain ⟨a, c, rfl, g1, g2, r⟩ := h2.out
  refine ⟨a, c, rfl, g1, g2, ?_⟩
  rcases r with r | ⟨b, off, cs, T, m, rfl, hb, r⟩
  ·exact .inl r
  ·exact .inr ⟨b, off, cs, T, m, rfl, (h b (h3 b rfl)).trans hb, r⟩
theorem Jf3 {w : World} {E sz : Nat} {v : Value} {n : Nat} {xs : List (List Value)} (h : w.ownsRow 0 E sz v n xs.flatten) (hn : xs.length = n) (hl : ∀ x ∈ xs, x.length = sz) : FrS (fun b => w.heap[b]?) sz v xs := by
 rcases h.2 with ⟨rfl, h0⟩ | ⟨g, cap, cur, rfl, _, hh, hnc, hm, hcs, ht⟩
 ·have : xs = [] := List.eq_nil_of_length_eq_zero (hn.trans h0)
  subst this
  exact ⟨none, 0, by simp, by simp, by simp, .inl rfl⟩
 ·subst hn
  have hr := Jeg h rfl hl
  refine ⟨some ⟨g, 0, none⟩, cap, rfl, hnc, by simpa [maxLen] using hm, ?_⟩
  rcases hr with hr | ⟨b, off, ha, hr⟩
  ·exact .inl hr
  ·simp only [Option.some.injEq, Addr.mk.injEq] at ha
   obtain ⟨rfl, rfl, _⟩ := ha
   refine .inr ⟨g, 0, cur, E, _, rfl, hh, fun i x hx => ⟨(hr i x hx).1, fun j v hv => ?_⟩⟩
   have := (hr i x hx).2 j v hv
   simpa [World.cell?, hh] using this
theorem row_ro (E sz : Nat) (v : Value) (n : Nat) (xs : List (List Value)) : Imp (J3 E sz v n xs) (roV sz v n xs) := ⟨fun S w ⟨⟨h1, h2, h3⟩, h4⟩ => ⟨h2.symm, Jf3 h1 h2 h3, h4⟩⟩
theorem Jep (E sz : Nat) (a : Option Addr) (n c : Nat) (xs : List (List Value)) : Imp (J3 E sz (.slice a n c) n xs) (roV sz (.slice (Xg a 0 n sz) n n) n xs) := ⟨fun S w ⟨⟨h1, h2, h3⟩, h4⟩ => by
 have hf := Jf3 h1 h2 h3
 subst h2
 obtain ⟨a', c', hv, g1, g2, r⟩ := hf.out
 simp only [Value.slice.injEq] at hv
 obtain ⟨rfl, _, rfl⟩ := hv
 refine ⟨rfl, ⟨_, _, rfl, Nat.le_refl _, by omega, ?_⟩, fun b hb => h4 b ?_⟩
 ·have := r.cut 0 xs.length xs.length (by omega)
  rwa [List.drop_zero, List.take_of_length_le (Nat.le_refl _)] at this
 ·rw [own_cut (y := xs.length)] at hb; rw [← hb]; cases a <;> rfl⟩
theorem roOf {w : World} {i sz n c : Nat} {a : Option Addr} {xs : List (List Value)} (hS : Sat cx w L) (hL : L[i]? = some (roV sz (.slice a n c) n xs)) : Row w a sz xs := by
 obtain ⟨S, ⟨_, h2, _⟩, _⟩ := hS.at hL
 obtain ⟨a', c', h0, _, _, r⟩ := h2.out
 simp only [Value.slice.injEq] at h0
 obtain ⟨rfl, _, rfl⟩ := h0
 exact r.row fun b o h => h
theorem Je4 {fn : Func} {R : Value → World → Prop} (hr : fn.results = #[]) (k : ∀ w, Fr cx w → Sat cx w L → R (.tuple #[]) w) : At cx (Jei P fn R .normal) e L :=
 ⟨fun w hF hS tmps hs => ⟨.tuple #[], by simp [results, hr], k w hF hS⟩⟩
theorem Ji5 {α : Type} {q T j sz szT k c E m : Nat} {A X : Operand} {x : Value} {a : Option Addr} {vs : List Value} {f : α → List Value} {xs ys : List α} {i : Int} {z : α} (hm : m = xs.length) (hs : ∀ w, (sizeOf T).run P w = .ok szT w)
  (hw : X1 ops ⟨none, .store T A X, ty, pos, af, g⟩ e = true) (hp : ev e A = U0 a k) (hk : k = i.toNat * sz + j) (hx : ev e X = x) (hc : x.cells.toList = vs) (hsz : vs.length = szT)
  (hpos : Nat.blt 0 szT = true) (hone : vs.all Value.oneCell' = true) (hL : L[q]? = some (J3 E sz (.slice a m c) m (xs.map f))) (hv : ∀ y, Q9 xs i = some y → wr (f y) j vs = some (f z)) (hg : gSet xs i z = some ys)
  (k' : At cx (WL P n ops Q rest) e (L.set q (J3 E sz (.slice a m c) m (ys.map f)))) : At cx (WL P n ops Q (⟨none, .store T A X, ty, pos, af, g⟩ :: rest)) e L := by
 subst hm
 obtain ⟨h0, h1, rfl⟩ := Ja9 hg
 have hat : Q9 xs i = some xs[i.toNat] := Jf0 h0 h1
 exact l_storeR (i := i.toNat) (j := j) (y := f xs[i.toNat]) hs hw hp hk hx hc hsz hpos hone hL (map_at hat) (hv _ hat) (by rw [List.map_set]) k'
theorem makes_makeG {α : Type} {N C : Operand} {t E : TypeId} {I : TypeInfo} {z : Value} {sz by_ : Nat} {m : Int} {rds : List Nat} {f : α → List Value} {zz : α} {xs : List α} (ht : P.underlying t = some (.slice E)) (hi : P.info? E = some I) (hz : I.zero = some z) (hsize : I.size = sz) (hby : I.bytes = by_)
  (hzs : z.cells.toList = f zz) (hsz : Nat.blt 0 sz = true) (hl : (f zz).length = sz) (hnc : ev e N = .int .i64 m ∧ ev e C = .int .i64 m) (hg : gMake by_ m zz = some xs) :
  Jd7 P cx e ⟨some d, .makeSlice t N C, ty, pos, af, g⟩ L rds (fun p : Option Addr × Nat => .slice p.1 xs.length p.2) (fun p => J3 E sz (.slice p.1 xs.length p.2) xs.length (xs.map f)) := by
 obtain ⟨h0, hn, hb, rfl⟩ := gMake_some hg
 obtain ⟨k, rfl⟩ := Int.eq_ofNat_of_zero_le h0
 rw [Int.toNat_natCast] at *
 rw [List.length_replicate, List.map_replicate]
 exact Jbv (m := k) (c := k) ht hi hz hsize hby (by rw [hzs, hl]) hsz hnc.1 hnc.2 rfl (by omega) (by omega) (by rw [hzs])
theorem Je2 {w : World} {base : Nat} (t ty e : TypeId) (i : TypeInfo) (size : Nat) (ht : P.underlying t = some (.slice e)) (hi : P.info? e = some i)
  (v : Value) (n : Nat) (xs : List Value) (c : Nat) (hown : w.ownsRow base e size v n xs) :
  (Builtin.append_ #[t, t] ty #[v, .slice none 0 c]).run P w = .ok v w := by
 rcases hown.2 with ⟨rfl, rfl⟩ | ⟨g, cap, cur, rfl, _, _, hnc, _⟩
 ·simp [Builtin.append_, run_underlying ht, sizeOf, typeInfo, hi, Builtin.lenOf, Builtin.firstCells]
 ·simp [Builtin.append_, run_underlying ht, sizeOf, typeInfo, hi, Builtin.lenOf, Builtin.firstCells, hnc, storeCells]
theorem Ys {α : Type} {f : α → List Value} {ys ls zs : List α} {i : Nat} {S X : Operand} {t E : TypeId} {I : TypeInfo} {z : Value} {sz by_ : Nat} {p : Option Addr × Nat} {rds : List Nat} {V : Value} {a : Option Addr} {c m q : Nat} (hn : m = ys.length)
  (ht : P.underlying t = some (.slice E)) (hi : P.info? E = some I) (hz : I.zero = some z) (hsize : I.size = sz) (hby : I.bytes = by_) (hzs : z.cells.size = sz) (hsz : Nat.blt 0 sz = true)
  (hL : L[i]? = some (J3 E sz (.slice p.1 m p.2) m (ys.map f))) (hs : ev e S = .slice p.1 m p.2) (hx : ev e X = V) (hV : V = .slice a q c) (hq : q = ls.length)
  (hnews : ∀ w L', Fr cx w → Sat cx w L' → (∀ j, j ∈ rds → L'[j]? = L[j]?) → Row w a sz (ls.map f)) (hf : ∀ x, (f x).length = sz) (h1 : ∀ x, (f x).all Value.oneCell' = true) (hg : Xd by_ ys ls = some zs) :
  Turns P cx e ⟨some d, .call ⟨.builtin .append, #[S, X], #[t, t]⟩, ty, pos, af, g⟩ L i rds (fun p' : Option Addr × Nat => .slice p'.1 zs.length p'.2) (fun p' => J3 E sz (.slice p'.1 zs.length p'.2) zs.length (zs.map f)) := by
 subst hn hq
 obtain ⟨rfl, hb1, hb2⟩ := Ul hg
 rw [List.length_append]
 cases ha : a with
 | some ad =>
  subst ha
  exact Jgp (ad := ad) ht hi hz hsize hby hzs hsz hL hs (hx.trans hV) (by rw [List.length_map]) (fun x hx => by
   obtain ⟨y, _, rfl⟩ := List.mem_map.1 hx; exact hf y) hnews (fun x hx u hu => by
   obtain ⟨y, _, rfl⟩ := List.mem_map.1 hx; exact List.all_eq_true.1 (h1 y) u hu) (by rw [List.map_append]) rfl (by omega) hb2
 | none =>
  subst ha
  intro w L' hF hS hl hi'
  have hr := hnews w L' hF hS fun j hj => hi' j (.inl hj)
  have hls : ls = [] := by
   rcases hr with h | ⟨b, off, h, _⟩
   ·simpa using h
   ·cases h
  subst hls
  have hL' := (hi' i (.inr rfl)).trans hL
  obtain ⟨S0, ⟨⟨ho, _⟩, _⟩, _⟩ := hS.at hL'
  have he : (execOp (ev e) ⟨some d, .call ⟨.builtin .append, #[S, X], #[t, t]⟩, ty, pos, af, g⟩).run P w = .ok (.value (.slice p.1 ys.length p.2)) w := by
   simp only [execOp, resolve, invoke, builtin, Sem.run_bind, Sem.run_pure, Result.andThen_ok, List.map_toArray, List.map_cons, List.map_nil, hs, hx, hV, List.length_nil, Je2 t ty E I sz ht hi _ _ _ c ho]
  unfold RunsTo
  rw [he]
  refine ⟨p, by simp, hF, ?_⟩
  have : L'.set i (J3 E sz (.slice p.1 (ys.length + 0) p.2) (ys.length + 0) ((ys ++ []).map f)) = L' := by
   rw [List.append_nil, Nat.add_zero]
   refine List.ext_getElem? fun j => ?_
   rw [List.getElem?_set]
   split
   ·rename_i h; subst h
    split
    ·exact hL'.symm
    ·rename_i h; rw [List.getElem?_eq_none (by omega)]
   ·rfl
  show Sat cx w (L'.set i (J3 E sz (.slice p.1 (ys.length + ([] : List α).length) p.2) (ys.length + ([] : List α).length) ((ys ++ []).map f)))
  rw [List.length_nil, this]
  exact hS
end rules
end Go.Lx
