/- Models: partial functions in plain Lean that stand for Go functions, the guards of single operations, and one way to loop and to recur. Conditions: none. -/
import GoSem.Step
import Derived.Shelf.SlGeneric
import Derived.Shelf.SlicesG.Cmp
import Derived.Shelf.SlSortCmp.WholeK
import Derived.Shelf.Small.Bits
import Derived.Ground.SlsfProg
import Derived.Ground.SlgcProg
import Derived.Test.YtdcppgplkfkjiaaGreatDoorProg
import Derived.Orders
import Derived.Tactics
import Derived.Below
import Derived.KernelRfl
import Derived.Laws.Cells
import Derived.Laws.CopyRow
import Derived.Laws.Externs
import Derived.IntWalk
import Derived.Deep.LoopGhost
import Derived.LoopN
import Derived.Laws.StructEq
import Derived.Maps.AppendAt
import Derived.Laws.OwnMore
import Derived.Laws.Slices
import Derived.Laws.Strings3
import Derived.Laws.Concat
namespace Go.Md
def Jr {α β : Type} (m : Option α) (k : α → Option β) : Option β :=
 match m with
 | some a => k a
 | none => none
theorem Je {α β : Type} {m : Option α} {k : α → Option β} {r : β} (h : Jr m k = some r) : ∃ a, m = some a ∧ k a = some r := by
 cases m with
 | none => cases h
 | some a => exact ⟨a, rfl, h⟩
@[simp] theorem Jb {α β : Type} (a : α) (k : α → Option β) : Jr (some a) k = k a := rfl
@[simp] theorem bnd_none {α β : Type} (k : α → Option β) : Jr none k = none := rfl
def val {α : Type} [Inhabited α] (m : Option α) : α := m.getD default
theorem J0 {α β : Type} [Inhabited α] {m : Option α} {k : α → Option β} {r : β} (h : Jr m k = some r) : m = some (val m) := by
 cases m with
 | none => cases h
 | some a => rfl
theorem Ju {α β : Type} [Inhabited α] {m : Option α} {k : α → Option β} {r : β} (h : Jr m k = some r) : k (val m) = some r := by
 cases m with
 | none => cases h
 | some a => exact h
def Ql {α : Type} (b : Bool) (x y : Option α) : Option α := match b with | true => x | false => y
theorem cnd_t {α : Type} {b : Bool} {x y : Option α} {r : Option α} (hb : b = true) (h : Ql b x y = r) : x = r := by subst hb; exact h
theorem cnd_f {α : Type} {b : Bool} {x y : Option α} {r : Option α} (hb : b = false) (h : Ql b x y = r) : y = r := by subst hb; exact h
@[simp] theorem X0 {α : Type} (x y : Option α) : Ql true x y = x := rfl
@[simp] theorem Qf {α : Type} (x y : Option α) : Ql false x y = y := rfl
theorem cnd_if {α : Type} (p : Prop) [Decidable p] (x y : Option α) : Ql (decide p) x y = if p then x else y := by
 by_cases h : p <;> simp [h]
def it {α ρ : Type} (F : (α → Option ρ) → α → Option ρ) : Nat → α → Option ρ
 | 0, _ => none
 | n + 1, a => F (it F n) a
open Classical in
noncomputable def V8 {α ρ : Type} (F : (α → Option ρ) → α → Option ρ) (a : α) : Option ρ :=
 if h : ∃ r k, ∀ n, k ≤ n → it F n a = some r then some (Classical.choose h) else none
theorem fix_it {α ρ : Type} {F : (α → Option ρ) → α → Option ρ} {a : α} {r : ρ} (h : V8 F a = some r) : ∃ n, it F n a = some r := by
 unfold V8 at h
 split at h
 ·rename_i hh
  cases h
  obtain ⟨k, hk⟩ := Classical.choose_spec hh
  exact ⟨k, hk k (Nat.le_refl _)⟩
 ·cases h
theorem fix_ev {α ρ : Type} {F : (α → Option ρ) → α → Option ρ} {a : α} {o : Option ρ} {k : Nat} (h : ∀ n, k ≤ n → it F n a = o) : V8 F a = o := by
 unfold V8
 cases o with
 | some r =>
  have hh : ∃ r k, ∀ n, k ≤ n → it F n a = some r := ⟨r, k, h⟩
  rw [dif_pos hh]
  obtain ⟨k', hk'⟩ := Classical.choose_spec hh
  have h1 := hk' (max k k') (Nat.le_max_right _ _)
  rw [h _ (Nat.le_max_left _ _)] at h1
  exact h1.symm
 | none =>
  rw [dif_neg]
  rintro ⟨r, k', hk'⟩
  have h1 := hk' (max k k') (Nat.le_max_right _ _)
  rw [h _ (Nat.le_max_left _ _)] at h1
  cases h1
theorem fix_of {α ρ : Type} {F : (α → Option ρ) → α → Option ρ} (spec : α → Option ρ) (I : α → Prop) (μ : α → Nat)
  (step : ∀ (next : α → Option ρ) (a : α), I a → (∀ b, I b → μ b < μ a → next b = spec b) → F next a = spec a) (a : α) (ha : I a) : V8 F a = spec a := by
 have key : ∀ (n : Nat) (a : α), I a → μ a < n → it F n a = spec a := by
  intro n
  induction n with
  | zero => intro a _ h; omega
  | succ n ih => intro a ha h; exact step _ a ha fun b hb hlt => ih b hb (by omega)
 exact fix_ev (k := μ a + 1) fun n hn => key n a ha (by omega)
theorem it_ev {α ρ : Type} {F : (α → Option ρ) → α → Option ρ} {a b : α} (h : ∀ next, F next a = next b) : V8 F a = V8 F b := by
 by_cases hb : ∃ r k, ∀ n, k ≤ n → it F n b = some r
 ·obtain ⟨r, k, hk⟩ := hb
  rw [fix_ev (o := some r) (k := k) hk, fix_ev (o := some r) (k := k + 1)]
  intro n hn
  cases n with
  | zero => omega
  | succ n => show F (it F n) a = some r; rw [h]; exact hk n (by omega)
 ·have ha : ¬ ∃ r k, ∀ n, k ≤ n → it F n a = some r := by
   rintro ⟨r, k, hk⟩
   exact hb ⟨r, k, fun n hn => by have := hk (n + 1) (by omega); rw [show it F (n + 1) a = F (it F n) a from rfl, h] at this; exact this⟩
  unfold V8
  rw [dif_neg hb, dif_neg ha]
theorem Q0 {α ρ : Type} {F : (α → Option ρ) → α → Option ρ} {a : α} (b : α) (h : ∀ next, F next a = next b) : V8 F a = V8 F b := it_ev h
theorem Qb {α ρ : Type} {F : (α → Option ρ) → α → Option ρ} {a : α} {o : Option ρ} (h : ∀ next, F next a = o) : V8 F a = o :=
 fix_ev (k := 1) fun n hn => by
  cases n with
  | zero => omega
  | succ n => exact h _
def gI (x : Int) : Option Int := if -9223372036854775808 ≤ x ∧ x ≤ 9223372036854775807 then some x else none
theorem gI_some {x y : Int} (h : gI x = some y) : y = x ∧ -9223372036854775808 ≤ x ∧ x ≤ 9223372036854775807 := by
 unfold gI at h; split at h
 ·cases h; exact ⟨rfl, ‹_›⟩
 ·cases h
theorem Jy {x : Int} (h : -9223372036854775808 ≤ x ∧ x ≤ 9223372036854775807) : gI x = some x := if_pos h
def gQuo (x y : Int) : Option Int := if y = 0 then none else gI (x.tdiv y)
theorem gQuo_some {x y z : Int} (h : gQuo x y = some z) : y ≠ 0 ∧ z = x.tdiv y ∧ -9223372036854775808 ≤ x.tdiv y ∧ x.tdiv y ≤ 9223372036854775807 := by
 unfold gQuo at h; split at h
 ·cases h
 ·exact ⟨‹_›, gI_some h⟩
theorem gQuo_ok {x y : Int} (hy : y ≠ 0) (h : -9223372036854775807 ≤ x ∧ x ≤ 9223372036854775807) : gQuo x y = some (x.tdiv y) := by
 unfold gQuo
 rw [if_neg hy, Jy]
 have h := Int.natAbs_tdiv_le_natAbs x y
 omega
theorem gQuo_nn {x y : Int} (hy : 0 < y) (h : 0 ≤ x ∧ x ≤ 9223372036854775807) : gQuo x y = some (x / y) := by
 rw [gQuo_ok (by omega) (by omega), Int.tdiv_eq_ediv_of_nonneg h.1]
def gRem (x y : Int) : Option Int := if y = 0 then none else some (x.tmod y)
theorem gRem_some {x y z : Int} (h : gRem x y = some z) : y ≠ 0 ∧ z = x.tmod y := by
 unfold gRem at h; split at h
 ·cases h
 ·cases h; exact ⟨‹_›, rfl⟩
theorem gRem_ok {x y : Int} (hy : y ≠ 0) : gRem x y = some (x.tmod y) := if_neg hy
theorem gRem_nn {x y : Int} (hy : 0 < y) (h : 0 ≤ x) : gRem x y = some (x % y) := by
 rw [gRem_ok (by omega), Int.tmod_eq_emod_of_nonneg h]
def Yp {α : Type} (xs : List α) (i : Int) : Option α := if 0 ≤ i then xs[i.toNat]? else none
theorem Y9 {α : Type} {xs : List α} {i : Int} {x : α} (h : Yp xs i = some x) : 0 ≤ i ∧ i.toNat < xs.length ∧ xs[i.toNat]? = some x := by
 unfold Yp at h; split at h
 ·refine ⟨‹_›, ?_, h⟩
  rcases Nat.lt_or_ge i.toNat xs.length with h' | h'
  ·exact h'
  ·rw [List.getElem?_eq_none h'] at h; cases h
 ·cases h
theorem Qz {α : Type} {xs : List α} {k : Nat} (h : k < xs.length) : Yp xs (k : Int) = some xs[k] := by
 unfold Yp; rw [if_pos (by omega), Int.toNat_natCast, List.getElem?_eq_getElem h]
theorem gAt_ok {α : Type} {xs : List α} {i : Int} (h0 : 0 ≤ i) (h : i.toNat < xs.length) : Yp xs i = some xs[i.toNat] := by
 unfold Yp; rw [if_pos h0, List.getElem?_eq_getElem h]
def gSet {α : Type} (xs : List α) (i : Int) (x : α) : Option (List α) := if 0 ≤ i ∧ i.toNat < xs.length then some (xs.set i.toNat x) else none
theorem W1 {α : Type} {xs ys : List α} {i : Int} {x : α} (h : gSet xs i x = some ys) : 0 ≤ i ∧ i.toNat < xs.length ∧ ys = xs.set i.toNat x := by
 unfold gSet at h; split at h
 ·cases h; exact ⟨‹_ ∧ _›.1, ‹_ ∧ _›.2, rfl⟩
 ·cases h
theorem U6 {α : Type} {xs : List α} {i : Int} {x : α} (h0 : 0 ≤ i) (h : i.toNat < xs.length) : gSet xs i x = some (xs.set i.toNat x) := if_pos ⟨h0, h⟩
theorem gSet_n {α : Type} {n : Nat} {xs ys : List α} {i : Int} {x : α} (hn : n = xs.length) (h : gSet xs i x = some ys) : n = ys.length := by
 obtain ⟨_, _, rfl⟩ := W1 h; rw [List.length_set]; exact hn
def Yu {α : Type} (xs : List α) (l h : Int) : Option (List α) := if 0 ≤ l ∧ l ≤ h ∧ h ≤ xs.length then some ((xs.drop l.toNat).take (h.toNat - l.toNat)) else none
theorem Y3 {α : Type} {xs ys : List α} {l h : Int} (e : Yu xs l h = some ys) : 0 ≤ l ∧ l ≤ h ∧ h ≤ xs.length ∧ ys = (xs.drop l.toNat).take (h.toNat - l.toNat) := by
 unfold Yu at e; split at e
 ·cases e; rename_i h; exact ⟨h.1, h.2.1, h.2.2, rfl⟩
 ·cases e
theorem gCut_ok {α : Type} {xs : List α} {l h : Int} (h0 : 0 ≤ l ∧ l ≤ h ∧ h ≤ xs.length) : Yu xs l h = some ((xs.drop l.toNat).take (h.toNat - l.toNat)) := if_pos h0
theorem gCut_to {α : Type} {xs : List α} {h : Int} (h0 : 0 ≤ h ∧ h ≤ xs.length) : Yu xs 0 h = some (xs.take h.toNat) := by rw [gCut_ok ⟨by omega, h0⟩]; simp
theorem Yb {α : Type} {xs : List α} {l : Int} (h0 : 0 ≤ l ∧ l ≤ xs.length) : Yu xs l xs.length = some (xs.drop l.toNat) := by
 rw [gCut_ok ⟨h0.1, h0.2, by omega⟩, List.take_of_length_le (by simp)]
def Ue (s : List UInt8) (i : Int) : Option Int := if 0 ≤ i then (s[i.toNat]?).map fun c => (c.toNat : Int) else none
theorem gOct_some {s : List UInt8} {i c : Int} (h : Ue s i = some c) : 0 ≤ i ∧ i < s.length ∧ c = ((s.getD i.toNat 0).toNat : Nat) := by
 unfold Ue at h; split at h
 ·rename_i h0
  rcases Nat.lt_or_ge i.toNat s.length with h' | h'
  ·rw [List.getElem?_eq_getElem h'] at h
   simp only [Option.map_some, Option.some.injEq] at h
   refine ⟨h0, by omega, ?_⟩
   rw [← h, List.getD_eq_getElem?_getD, List.getElem?_eq_getElem h']; rfl
  ·rw [List.getElem?_eq_none h'] at h; cases h
 ·cases h
theorem gOct_nat {s : List UInt8} {k : Nat} (h : k < s.length) : Ue s (k : Int) = some (s[k].toNat : Int) := by
 unfold Ue; rw [if_pos (by omega), Int.toNat_natCast, List.getElem?_eq_getElem h]; rfl
def gCat (a b : List UInt8) : Option (List UInt8) := if a.length + b.length ≤ 9223372036854775807 then some (a ++ b) else none
theorem gCat_some {a b c : List UInt8} (h : gCat a b = some c) : c = a ++ b ∧ a.length + b.length ≤ 9223372036854775807 := by
 unfold gCat at h; split at h
 ·cases h; exact ⟨rfl, ‹_›⟩
 ·cases h
theorem gCat_ok {a b : List UInt8} (h : a.length + b.length ≤ 9223372036854775807) : gCat a b = some (a ++ b) := if_pos h
def Ye {α : Type} (by_ : Nat) (xs ys : List α) : Option (List α) := if xs.length + ys.length ≤ 140737488355328 ∧ (xs.length + ys.length) * by_ ≤ 140737488355328 then some (xs ++ ys) else none
theorem gApp_some {α : Type} {by_ : Nat} {xs ys zs : List α} (h : Ye by_ xs ys = some zs) : zs = xs ++ ys ∧ xs.length + ys.length ≤ 140737488355328 ∧ (xs.length + ys.length) * by_ ≤ 140737488355328 := by
 unfold Ye at h; split at h
 ·cases h; exact ⟨rfl, ‹_›⟩
 ·cases h
theorem Yl {α : Type} {by_ : Nat} {xs ys : List α} (h : xs.length + ys.length ≤ 140737488355328 ∧ (xs.length + ys.length) * by_ ≤ 140737488355328) : Ye by_ xs ys = some (xs ++ ys) := if_pos h
def gApL {α : Type} (by_ : Nat) (xs ys : List α) : Option (List α) := if xs.length + ys.length ≤ 140739635838976 ∧ (xs.length + ys.length) * by_ ≤ 140739635838976 then some (xs ++ ys) else none
theorem gApL_some {α : Type} {by_ : Nat} {xs ys zs : List α} (h : gApL by_ xs ys = some zs) : zs = xs ++ ys ∧ xs.length + ys.length ≤ 140739635838976 ∧ (xs.length + ys.length) * by_ ≤ 140739635838976 := by
 unfold gApL at h; split at h
 ·cases h; exact ⟨rfl, ‹_›⟩
 ·cases h
theorem gApL_ok {α : Type} {by_ : Nat} {xs ys : List α} (h : xs.length + ys.length ≤ 140739635838976 ∧ (xs.length + ys.length) * by_ ≤ 140739635838976) : gApL by_ xs ys = some (xs ++ ys) := if_pos h
def J7 (s : List UInt8) : List Int := s.map fun c => (c.toNat : Int)
def Z8 (xs : List Int) : List UInt8 := xs.map fun x => UInt8.ofNat x.toNat
def gMake {α : Type} (by_ : Nat) (n : Int) (z : α) : Option (List α) := if 0 ≤ n ∧ n ≤ 140737488355328 ∧ by_ * n.toNat ≤ 140737488355328 then some (List.replicate n.toNat z) else none
theorem gMake_some {α : Type} {by_ : Nat} {n : Int} {z : α} {zs : List α} (h : gMake by_ n z = some zs) : 0 ≤ n ∧ n ≤ 140737488355328 ∧ by_ * n.toNat ≤ 140737488355328 ∧ zs = List.replicate n.toNat z := by
 unfold gMake at h; split at h
 ·cases h; rename_i h; exact ⟨h.1, h.2.1, h.2.2, rfl⟩
 ·cases h
theorem gMake_ok {α : Type} {by_ : Nat} {n : Int} {z : α} (h : 0 ≤ n ∧ n ≤ 140737488355328 ∧ by_ * n.toNat ≤ 140737488355328) : gMake by_ n z = some (List.replicate n.toNat z) := if_pos h
def wU8 (x : Int) : Int := x % 256
def Qw (x : Int) : Int := x % 18446744073709551616
def wI32 (x : Int) : Int := if 2147483648 ≤ x % 4294967296 then x % 4294967296 - 4294967296 else x % 4294967296
def V0 (x : Int) : Int := if 9223372036854775808 ≤ x % 18446744073709551616 then x % 18446744073709551616 - 18446744073709551616 else x % 18446744073709551616
theorem wI64_in {x : Int} (h : -9223372036854775808 ≤ x ∧ x ≤ 9223372036854775807) : V0 x = x := by unfold V0; split <;> omega
theorem wU64_in {x : Int} (h : 0 ≤ x ∧ x ≤ 18446744073709551615) : Qw x = x := by unfold Qw; omega
def gK (lo hi x : Int) : Option Int := if lo ≤ x ∧ x ≤ hi then some x else none
theorem gK_some {lo hi x y : Int} (h : gK lo hi x = some y) : y = x ∧ lo ≤ x ∧ x ≤ hi := by
 unfold gK at h; split at h
 ·cases h; exact ⟨rfl, ‹_›⟩
 ·cases h
def gShl (x y : Int) : Option Int := if 0 ≤ y ∧ y < 64 then gI (x * 2 ^ y.toNat) else none
theorem gShl_some {x y z : Int} (h : gShl x y = some z) : 0 ≤ y ∧ y < 64 ∧ z = x * 2 ^ y.toNat ∧ -9223372036854775808 ≤ x * 2 ^ y.toNat ∧ x * 2 ^ y.toNat ≤ 9223372036854775807 := by
 unfold gShl at h; split at h
 ·rename_i h0; obtain ⟨h1, h2⟩ := gI_some h; exact ⟨h0.1, h0.2, h1, h2⟩
 ·cases h
def gShr (bits : Nat) (x y : Int) : Option Int := if 0 ≤ y then some (x / 2 ^ min y.toNat bits) else none
def Uw (bits : Nat) (x y : Int) : Int := ((BitVec.ofInt bits x &&& BitVec.ofInt bits y).toNat : Int)
def bOr (bits : Nat) (x y : Int) : Int := ((BitVec.ofInt bits x ||| BitVec.ofInt bits y).toNat : Int)
def gAdd64 (x y c : Int) : Option (Int × Int) := if 0 ≤ x ∧ 0 ≤ y ∧ 0 ≤ c ∧ c ≤ 1 then some ((x + y + c) % 18446744073709551616, (x + y + c) / 18446744073709551616) else none
def gIx (n : Nat) (i : Int) : Option Nat := if 0 ≤ i ∧ i < n then some i.toNat else none
theorem gIx_some {n k : Nat} {i : Int} (h : gIx n i = some k) : 0 ≤ i ∧ i < n ∧ k = i.toNat := by
 unfold gIx at h; split at h
 ·cases h; rename_i h; exact ⟨h.1, h.2, rfl⟩
 ·cases h
theorem gIx_lt {n k : Nat} {i : Int} (h : gIx n i = some k) : k < n := by
 obtain ⟨h0, h1, rfl⟩ := gIx_some h; omega
theorem gIx_nat {n k : Nat} (h : k < n) : gIx n (k : Int) = some k := by unfold gIx; rw [if_pos (by omega)]; rfl
def ofL {α : Type} [Inhabited α] (l : List α) (j : Nat) : α := l.getD j default
def Zh {α : Type} (v : Nat → α) (i : Nat) (x : α) (j : Nat) : α := if j = i then x else v j
end Go.Md

/- Models of floating-point numbers: bits, read and written as the machine does. Conditions: none. -/
namespace Go.Md
open Go
end Go.Md

/- Guards: the beginning of an array, the next character of a string. Conditions: none. -/
namespace Go.Md
def gCutA {α : Type} (n : Nat) (f : Nat → α) (q : Int) : Option (List α) := if 0 ≤ q ∧ q ≤ n then some ((List.range q.toNat).map f) else none
theorem gCutA_some {α : Type} {n : Nat} {f : Nat → α} {q : Int} {l : List α} (h : gCutA n f q = some l) : 0 ≤ q ∧ q ≤ n ∧ l = (List.range q.toNat).map f := by
 unfold gCutA at h; split at h
 ·rename_i hh; cases h; exact ⟨hh.1, hh.2, rfl⟩
 ·cases h
theorem gCutA_ok {α : Type} {n : Nat} {f : Nat → α} {q : Int} (h : 0 ≤ q ∧ q ≤ n) : gCutA n f q = some ((List.range q.toNat).map f) := if_pos h
end Go.Md

/- Guards: a part of a row that is copied over; arrays out of slices; functions that may be nil. Conditions: none. -/
namespace Go.Md
def cpyL {α : Type} (xs : List α) (a : Int) (m : Nat) (ys : List α) : List α := xs.take a.toNat ++ (ys.take m ++ xs.drop (a.toNat + min m ys.length))
theorem cpyL_len {α : Type} {xs ys : List α} {a : Int} {m : Nat} (h : a.toNat + m ≤ xs.length) : (cpyL xs a m ys).length = xs.length := by
 unfold cpyL
 simp only [List.length_append, List.length_take, List.length_drop]; omega
theorem cpyL_n {α : Type} {n : Nat} {xs ts ys : List α} {a q : Int} (hn : n = xs.length) (h : Yu xs a q = some ts) : n = (cpyL xs a ts.length ys).length := by
 obtain ⟨h0, h1, h2, rfl⟩ := Y3 h
 rw [cpyL_len]
 ·exact hn
 ·rw [List.length_take, List.length_drop]; omega
def gFn {μ : Type} (m : Option μ) : Option μ := m
theorem gFn_some {μ : Type} {m : Option μ} {g : μ} (h : gFn m = some g) : m = some g := h
end Go.Md

/- Models: what a strings.Builder holds. Conditions: none. -/
namespace Go.Md
end Go.Md

/- Models: bytes in strings, decimal numerals. Conditions: none. -/
namespace Go.Md
def decD (u : Nat) : List UInt8 :=
 if u < 10 then [UInt8.ofNat (48 + u)] else decD (u / 10) ++ [UInt8.ofNat (48 + u % 10)]
termination_by u
decreasing_by omega
def itoaL (n : Int) : List UInt8 := if n < 0 then 45 :: decD n.natAbs else decD n.toNat
def gItoa (n : Int) : Option (List UInt8) := if -9223372036854775808 ≤ n ∧ n ≤ 9223372036854775807 then some (itoaL n) else none
def gRep (s : List UInt8) (n : Int) : Option (List UInt8) := if 0 ≤ n ∧ n ≤ 9223372036854775807 ∧ s.length * n.toNat ≤ 140737488355328 then some (List.replicate n.toNat s).flatten else none
end Go.Md

/- Models: elements that are struck out, or move within their row. Conditions: none. -/
namespace Go.Md
def gApN {α : Type} (by_ : Nat) (xs ys : List α) : Option (List α) := if ys.length ≠ 0 ∧ xs.length + ys.length ≤ 140739635838976 ∧ (xs.length + ys.length) * by_ ≤ 140739635838976 then some (xs ++ ys) else none
theorem gApN_some {α : Type} {by_ : Nat} {xs ys zs : List α} (h : gApN by_ xs ys = some zs) : zs = xs ++ ys ∧ ys ≠ [] ∧ xs.length + ys.length ≤ 140739635838976 ∧ (xs.length + ys.length) * by_ ≤ 140739635838976 := by
 unfold gApN at h; split at h
 ·rename_i hh; cases h; exact ⟨rfl, fun e => hh.1 (by rw [e]; rfl), hh.2⟩
 ·cases h
theorem gApN_ok {α : Type} {by_ : Nat} {xs ys : List α} (h : ys.length ≠ 0 ∧ xs.length + ys.length ≤ 140739635838976 ∧ (xs.length + ys.length) * by_ ≤ 140739635838976) : gApN by_ xs ys = some (xs ++ ys) := if_pos h
def gByt (s : List UInt8) : Option (List Int) := if s.length ≤ 9223372036854775807 then some (J7 s) else none
theorem gByt_some {s : List UInt8} {r : List Int} (h : gByt s = some r) : r = J7 s ∧ s.length ≤ 9223372036854775807 := by
 unfold gByt at h; split at h
 ·cases h; exact ⟨rfl, by assumption⟩
 ·cases h
theorem gByt_ok {s : List UInt8} (h : s.length ≤ 9223372036854775807) : gByt s = some (J7 s) := if_pos h
end Go.Md

/- Models: maps as lists of what was put in, and choices that nobody knows. Conditions: none. -/
namespace Go.Md
section
variable {κ ν : Type} [DecidableEq κ]
def mGet (xs : List (κ × ν)) (k : κ) : Option ν := (xs.find? fun p => decide (p.1 = k)).map (·.2)
def mHas (xs : List (κ × ν)) (k : κ) : Bool := xs.any fun p => decide (p.1 = k)
def mSet (xs : List (κ × ν)) (k : κ) (v : ν) : List (κ × ν) := if mHas xs k then xs.map (fun p => if p.1 = k then (k, v) else p) else xs ++ [(k, v)]
end
structure Pick {α : Type} (l : List α) (p : α) (l' : List α) : Prop where
 out : ∃ i, l[i]? = some p ∧ l' = l.eraseIdx i
theorem Pick.len {α : Type} {l l' : List α} {p : α} (h : Pick l p l') : l'.length + 1 = l.length := by
 obtain ⟨i, h1, rfl⟩ := h.out
 have hi : i < l.length := by
  rcases Nat.lt_or_ge i l.length with h | h
  ·exact h
  ·rw [List.getElem?_eq_none h] at h1; cases h1
 rw [List.length_eraseIdx_of_lt hi]; omega
theorem Pick.sub {α : Type} {l l' : List α} {p : α} (h : Pick l p l') : ∀ x ∈ l', x ∈ l := by
 obtain ⟨i, _, rfl⟩ := h.out
 exact fun x hx => List.mem_of_mem_eraseIdx hx
theorem Pick.perm {α : Type} {l l' : List α} {p : α} (h : Pick l p l') : l.Perm (p :: l') := by
 obtain ⟨i, h1, rfl⟩ := h.out
 clear h
 induction l generalizing i with
 | nil => simp at h1
 | cons x l ih =>
  cases i with
  | zero => simp at h1; subst h1; exact List.Perm.refl _
  | succ i =>
   simp at h1
   rw [List.eraseIdx_cons_succ]
   exact (List.Perm.cons x (ih i h1)).trans (List.Perm.swap p x _)
end Go.Md

/- Operations of models: a sort by a comparing function. Conditions: none. -/
namespace Go.Md
structure CmpOk {α : Type} (cmp : α → α → Option Int) : Prop where
 tot : ∀ x y, ∃ v, cmp x y = some v
 flip : ∀ x y, (cmp x y).getD 0 < 0 ↔ 0 < (cmp y x).getD 0
 trans : ∀ x y z, (cmp x y).getD 0 ≤ 0 → (cmp y z).getD 0 ≤ 0 → (cmp x z).getD 0 ≤ 0
 anti : ∀ x y, (cmp x y).getD 0 = 0 → x = y
def leC {α : Type} (cmp : α → α → Option Int) (x y : α) : Bool := decide ((cmp x y).getD 0 ≤ 0)
open Classical in
noncomputable def gSortF {α : Type} (l : List α) (cmp : α → α → Option Int) : Option (List α) := if l.length < 4611686018427387904 ∧ CmpOk cmp then some (l.mergeSort (leC cmp)) else none
theorem sorted_unique {α : Type} {le : α → α → Bool} (anti : ∀ x y, le x y = true → le y x = true → x = y) : ∀ {a b : List α}, a.Perm b → a.Pairwise (fun x y => le x y = true) → b.Pairwise (fun x y => le x y = true) → (∀ x, le x x = true) → a = b
 | [], b, p, _, _, _ => (List.nil_perm.1 p).symm
 | x :: a, [], p, _, _, _ => by have := p.length_eq; simp at this
 | x :: a, y :: b, p, ha, hb, hr => by
  have hxy : x = y := by
   have h1 : x ∈ y :: b := p.mem_iff.1 (by simp)
   have h2 : y ∈ x :: a := p.mem_iff.2 (by simp)
   refine anti x y ?_ ?_
   ·rcases List.mem_cons.1 h2 with h | h
    ·rw [h]; exact hr x
    ·exact (List.pairwise_cons.1 ha).1 y h
   ·rcases List.mem_cons.1 h1 with h | h
    ·rw [h]; exact hr y
    ·exact (List.pairwise_cons.1 hb).1 x h
  subst hxy
  rw [sorted_unique anti ((List.perm_cons x).1 p) (List.pairwise_cons.1 ha).2 (List.pairwise_cons.1 hb).2 hr]
section
variable {α : Type} {cmp : α → α → Option Int}
theorem CmpOk.refl (c : CmpOk cmp) (x : α) : leC cmp x x = true := by
 have := c.flip x x
 unfold leC; simp; omega
theorem CmpOk.total (c : CmpOk cmp) (x y : α) : (leC cmp x y || leC cmp y x) = true := by
 have := c.flip x y
 have h2 := c.flip y x
 unfold leC; simp; omega
theorem CmpOk.antisymm (c : CmpOk cmp) (x y : α) (h1 : leC cmp x y = true) (h2 : leC cmp y x = true) : x = y := by
 have f1 := c.flip x y
 have f2 := c.flip y x
 unfold leC at h1 h2
 simp at h1 h2
 exact c.anti x y (by omega)
theorem CmpOk.letrans (c : CmpOk cmp) (x y z : α) (h1 : leC cmp x y = true) (h2 : leC cmp y z = true) : leC cmp x z = true := by
 unfold leC at *
 simp at *
 exact c.trans x y z h1 h2
theorem sortF_is (c : CmpOk cmp) {l d : List α} (p : d.Perm l) (h : d.Pairwise fun x y => leC cmp x y = true) : d = l.mergeSort (leC cmp) :=
 sorted_unique c.antisymm (p.trans (List.mergeSort_perm l _).symm) h (List.pairwise_mergeSort (le := leC cmp) c.letrans c.total l) c.refl
end
def Zr {α : Type} (xs : List α) (i : Int) (x : α) : List α := xs.take i.toNat ++ ([x] ++ xs.drop i.toNat)
def gInsN {α : Type} (by_ : Nat) (xs : List α) (i : Int) (x : α) : Option (List α) := if 0 ≤ i ∧ i ≤ xs.length ∧ (xs.length + 1) * by_ ≤ 140737488355328 ∧ xs.length + 1 ≤ 140737488355328 then some (Zr xs i x) else none
theorem gInsN_some {α : Type} {by_ : Nat} {xs ys : List α} {i : Int} {x : α} (h : gInsN by_ xs i x = some ys) : ys = Zr xs i x ∧ 0 ≤ i ∧ i ≤ xs.length ∧ (xs.length + 1) * by_ ≤ 140737488355328 ∧ xs.length + 1 ≤ 140737488355328 := by
 unfold gInsN at h; split at h
 ·cases h; exact ⟨rfl, ‹_›⟩
 ·cases h
theorem gInsN_ok {α : Type} {by_ : Nat} {xs : List α} {i : Int} {x : α} (h : 0 ≤ i ∧ i ≤ xs.length ∧ (xs.length + 1) * by_ ≤ 140737488355328 ∧ xs.length + 1 ≤ 140737488355328) : gInsN by_ xs i x = some (Zr xs i x) := if_pos h
end Go.Md

/- Operations of models: a sort by a number that each element has for itself. Conditions: none. -/
namespace Go.Md
end Go.Md

/- Operations of models: a sort whose order tells all elements of the list apart. Conditions: none. -/
namespace Go.Md
structure CmpPre {α : Type} (cmp : α → α → Option Int) : Prop where
 tot : ∀ x y, ∃ v, cmp x y = some v
 flip : ∀ x y, (cmp x y).getD 0 < 0 ↔ 0 < (cmp y x).getD 0
 trans : ∀ x y z, (cmp x y).getD 0 ≤ 0 → (cmp y z).getD 0 ≤ 0 → (cmp x z).getD 0 ≤ 0
section
variable {α : Type} {cmp : α → α → Option Int}
theorem CmpPre.total (c : CmpPre cmp) (x y : α) : (leC cmp x y || leC cmp y x) = true := by
 have := c.flip x y
 have h2 := c.flip y x
 unfold leC; simp; omega
theorem CmpPre.letrans (c : CmpPre cmp) (x y z : α) (h1 : leC cmp x y = true) (h2 : leC cmp y z = true) : leC cmp x z = true := by
 unfold leC at *
 simp at *
 exact c.trans x y z h1 h2
end
end Go.Md

/- Operations of models: a sort whose order leaves the result open; what follows must not depend on it. Conditions: none. -/
namespace Go.Md
structure SortOf {α : Type} (cmp : α → α → Option Int) (l d : List α) : Prop where
 perm : d.Perm l
 sorted : d.Pairwise fun x y => leC cmp x y = true
section
variable {α ρ : Type} {cmp : α → α → Option Int} {l : List α} {k : List α → Option ρ} {r : ρ}
end
end Go.Md

/- TopCarried: the models, printed by our generator from the compiled program. Conditions: none. -/
namespace Go.M
open Go.Md
set_option maxRecDepth 100000
set_option linter.unusedVariables false
structure T_tag_Ratio where
 Num : Int
 Den : Int
instance : Inhabited T_tag_Ratio := ⟨⟨0, 0⟩⟩
mutual
structure T_tag_Value where
 Kind : Int
 Text : (List UInt8)
 Ints : (List Int)
 Ratios : (List T_tag_Ratio)
 Entries : (List T_tag_Entry)
structure T_tag_Entry where
 Tag : Int
 Value : T_tag_Value
end
instance : Inhabited T_tag_Value := ⟨⟨0, [], [], [], []⟩⟩
instance : Inhabited T_tag_Entry := ⟨⟨0, ⟨0, [], [], [], []⟩⟩⟩
structure T_tag_File where
 Big : Bool
 Dirs : (List (List T_tag_Entry))
instance : Inhabited T_tag_File := ⟨⟨false, []⟩⟩
structure T_api_Place where
 Lat : Int
 Lon : Int
instance : Inhabited T_api_Place := ⟨⟨0, 0⟩⟩
structure T_tag_Segment where
 Kind : Int
 Text : (List UInt8)
instance : Inhabited T_tag_Segment := ⟨⟨0, []⟩⟩
structure T_tag_writer where
 big_ : Bool
 out_ : (List Int)
instance : Inhabited T_tag_writer := ⟨⟨false, []⟩⟩
structure T_tag_Span where
 From : Int
 To : Int
instance : Inhabited T_tag_Span := ⟨⟨0, 0⟩⟩
structure T_tag_reader where
 s_ : (List UInt8)
 big_ : Bool
 parts_ : (List T_tag_Span)
 seen_ : (List (Int × Bool))
 dirs_ : Int
 found_ : Nat
 no_ : Int
instance : Inhabited T_tag_reader := ⟨⟨[], false, [], [], 0, 0, 0⟩⟩
structure T_tag_wide where
 high_ : Int
 low_ : Int
instance : Inhabited T_tag_wide := ⟨⟨0, 0⟩⟩
structure T_where_Box where
 South : Int
 West : Int
 North : Int
 East : Int
instance : Inhabited T_where_Box := ⟨⟨0, 0, 0, 0⟩⟩
def Jat (x y : T_api_Place) : Bool := decide (x.Lat = y.Lat ∧ x.Lon = y.Lon)
noncomputable def tag_Read_1 (a0 : (List Int)) (a1 : Int) : Option (Unit) :=
 some ()
noncomputable def mft118 : Nat → (Option ((List Int) → Int → Option (Unit)))
 | 0 => some tag_Read_1
 | _ => none
noncomputable def Qu (a0 : (List T_tag_Entry)) (a1 : Int) (a2 : (T_tag_Entry → Int → Option (Int))) (x9 : Int) : Option (Int × Bool) :=
 Ql (decide (x9 < (a0.length : Int))) (Jr (Yp a0 x9) fun t43 =>
 Jr (a2 t43 a1) fun t46 =>
 some (x9, (decide (t46 = 0)))) (some (x9, false))
noncomputable def Qg (a0 : (List T_tag_Entry)) (a1 : Int) (a2 : (T_tag_Entry → Int → Option (Int))) (next2 : ((Int × Int) → Option (Int × Bool))) (x9_3 : Int) (x10_2 : Int) : Option (Int × Bool) :=
 Ql (decide (x9_3 < x10_2)) (Jr (gI (x9_3 + x10_2)) fun t20 =>
 Jr (gShr 64 (Qw t20) 1) fun t22 =>
 Jr (Yp a0 (V0 t22)) fun t27 =>
 Jr (a2 t27 a1) fun t30 =>
 Ql (decide (t30 < 0)) (Jr (gI ((V0 t22) + 1)) fun t33 =>
 next2 (t33, x10_2)) (next2 (x9_3, (V0 t22)))) (Qu a0 a1 a2 x9_3)
noncomputable def Yg (a0 : (List T_tag_Entry)) (a1 : Int) (a2 : (T_tag_Entry → Int → Option (Int))) : Option (Int × Bool) :=
 V8 (fun next2 s => Qg a0 a1 a2 next2 s.1 s.2) (0, (a0.length : Int))
noncomputable def Uh (a0 : T_tag_Entry) (a1 : Int) : Option (Int) :=
 Ql (decide (a0.Tag < a1)) (some (-1)) (Ql (decide (a1 < a0.Tag)) (some 1) (some 0))
noncomputable def W2 (a0 : (List T_tag_Entry)) (a1 : Int) : Option (Int × Bool) :=
 Jr (Yg a0 a1 Uh) fun t8 =>
 some (t8.1, t8.2)
noncomputable def Yk (a0 : Int) (a1 : Int) (a2 : Int) : Option (Bool) :=
 Ql (decide (a0 < a1)) (some true) (some (decide (a2 < a0)))
noncomputable def Wz (a0 : Int) (x4 : Bool) : Option (Int) :=
 Ql x4 (some 1) (Ql (decide (a0 = 3)) (some 2) (Ql (decide (a0 = 4)) (Ql (decide (a0 = 4)) (some 4) (Ql (decide (a0 = 5)) (some 8) (some 0))) (Ql (decide (a0 = 9)) (some 4) (Ql (decide (a0 = 5)) (some 8) (some 0)))))
noncomputable def Zc (a0 : Int) : Option (Int) :=
 Ql (decide (a0 = 1)) (Wz a0 (decide (a0 = 1))) (Ql (decide (a0 = 2)) (Wz a0 (decide (a0 = 2))) (Ql (decide (a0 = 7)) (Wz a0 (decide (a0 = 7))) (Wz a0 (decide (a0 = 13)))))
noncomputable def tag_isInts (a0 : Int) : Option (Bool) :=
 Ql (decide (a0 = 1)) (some true) (Ql (decide (a0 = 3)) (some true) (Ql (decide (a0 = 4)) (some true) (some (decide (a0 = 9)))))
noncomputable def tag_isText (a0 : Int) : Option (Bool) :=
 Ql (decide (a0 = 2)) (some true) (some (decide (a0 = 7)))
noncomputable def Vk (a0 : T_tag_Value) (x8_3 : Bool) : Option (Int) :=
 Ql x8_3 (Ql x8_3 (some 1) (some 0)) (Ql (decide (a0.Kind ≠ 13)) (Ql (decide (0 < (a0.Entries.length : Int))) (some 1) (some 0)) (some 0))
noncomputable def Ve (a0 : T_tag_Value) (x8_2 : Bool) : Option (Int) :=
 Ql x8_2 (Ql x8_2 (some 1) (some 0)) (Ql (decide (a0.Kind ≠ 5)) (Vk a0 (decide (0 < (a0.Ratios.length : Int)))) (Vk a0 false))
noncomputable def Vg (a0 : T_tag_Value) (x8 : Bool) : Option (Int) :=
 Ql x8 (Ql x8 (some 1) (some 0)) (Jr (tag_isText a0.Kind) fun t21 =>
 Ql (!t21) (Ve a0 (decide (a0.Text ≠ []))) (Ve a0 false))
noncomputable def Vq (a0 : T_tag_Value) : Option (Int) :=
 Jr (Zc a0.Kind) fun t6 =>
 Ql (decide (t6 = 0)) (some 10) (Jr (tag_isInts a0.Kind) fun t11 =>
 Ql (!t11) (Vg a0 (decide (0 < (a0.Ints.length : Int)))) (Vg a0 false))
noncomputable def tag_bounds (a0 : Int) : Option (Int × Int) :=
 Ql (decide (a0 = 1)) (some (0, 255)) (Ql (decide (a0 = 3)) (some (0, 65535)) (Ql (decide (a0 = 9)) (some ((-2147483648), 2147483647)) (some (0, 4294967295))))
noncomputable def Yi (a0 : T_tag_Value) (next3 : ((Int) → Option (Int))) (x56_2 : Int) : Option (Int) :=
 Ql (decide (x56_2 < (a0.Text.length : Int))) (Jr (Ue a0.Text x56_2) fun t62 =>
 Ql (decide (t62 = 0)) (some 9) (Jr (gI (x56_2 + 1)) fun t64 =>
 next3 t64)) (some 0)
noncomputable def V4 (a0 : T_tag_Value) : Option (Int) :=
 Ql (decide (a0.Kind = 2)) (V8 (fun next3 s => Yi a0 next3 s) 0) (some 0)
noncomputable def X5 (a0 : T_tag_Value) (next4 : ((Int) → Option (Int))) (x37_2 : Int) : Option (Int) :=
 Ql (decide (x37_2 < (a0.Ratios.length : Int))) (Jr (Yp a0.Ratios x37_2) fun t39 =>
 Jr (Yk t39.Num 0 4294967295) fun t43 =>
 Ql t43 (some 2) (Jr (Yk t39.Den 0 4294967295) fun t47 =>
 Ql t47 (some 2) (Jr (gI (x37_2 + 1)) fun t49 =>
 next4 t49))) (V4 a0)
noncomputable def V2 (a0 : T_tag_Value) : Option (Int) :=
 V8 (fun next4 s => X5 a0 next4 s) 0
noncomputable def X7 (a0 : T_tag_Value) (t19 : (Int × Int)) (next5 : ((Int) → Option (Int))) (x25_2 : Int) : Option (Int) :=
 Ql (decide (x25_2 < (a0.Ints.length : Int))) (Jr (Yp a0.Ints x25_2) fun t27 =>
 Jr (Yk t27 t19.1 t19.2) fun t32 =>
 Ql t32 (some 2) (Jr (gI (x25_2 + 1)) fun t33 =>
 next5 t33)) (V2 a0)
noncomputable def Ug (a0 : T_tag_Value) : Option (Int) :=
 Jr (Vq a0) fun t12 =>
 Ql (decide (t12 ≠ 0)) (some t12) (Jr (tag_bounds a0.Kind) fun t19 =>
 V8 (fun next5 s => X7 a0 t19 next5 s) 0)
noncomputable def Vp (x17_2 : Int) (next1 : ((Int) → Option (Int))) (x7 : Int) : Option (Int) :=
 Ql (decide (x7 ≠ 0)) (some x7) (Jr (gI (x17_2 + 1)) fun t61 =>
 next1 t61)
noncomputable def U9 (a1 : Int) (self : ((List T_tag_Entry) × Int) → Option (Int)) (x17_2 : Int) (next1 : ((Int) → Option (Int))) (t20 : T_tag_Entry) : Option (Int) :=
 Ql (decide (t20.Value.Kind ≠ 13)) (Jr (Ug t20.Value) fun t46 =>
 Vp x17_2 next1 t46) (Jr (Vq t20.Value) fun t49 =>
 Ql (decide (t49 = 0)) (Jr (gI (a1 + 1)) fun t56 =>
 Jr (self (t20.Value.Entries, t56)) fun t57 =>
 Vp x17_2 next1 t57) (Vp x17_2 next1 t49))
noncomputable def Ww (a0 : (List T_tag_Entry)) (a1 : Int) (self : ((List T_tag_Entry) × Int) → Option (Int)) (next1 : ((Int) → Option (Int))) (x17_2 : Int) : Option (Int) :=
 Ql (decide (x17_2 < (a0.length : Int))) (Jr (Yp a0 x17_2) fun t20 =>
 Jr (Yk t20.Tag 0 65535) fun t25 =>
 Ql t25 (some 2) (Ql (decide (0 < x17_2)) (Jr (gI (x17_2 - 1)) fun t34 =>
 Jr (Yp a0 t34) fun t35 =>
 Ql (decide (t20.Tag ≤ t35.Tag)) (some 5) (U9 a1 self x17_2 next1 t20)) (U9 a1 self x17_2 next1 t20))) (some 0)
noncomputable def Yj (self : ((List T_tag_Entry) × Int) → Option (Int)) (a0 : (List T_tag_Entry)) (a1 : Int) : Option (Int) :=
 Ql (decide (5 < a1)) (some 4) (Ql (decide (200 < (a0.length : Int))) (some 4) (V8 (fun next1 s => Ww a0 a1 self next1 s) 0))
noncomputable def Jar (a0 : (List T_tag_Entry)) (a1 : Int) : Option (Int) :=
 V8 (fun (self : ((List T_tag_Entry) × Int) → Option (Int)) (s : (List T_tag_Entry) × Int) => Yj self s.1 s.2) (a0, a1)
noncomputable def tag_even (a0 : Int) : Option (Int) :=
 Jr (gRem a0 2) fun t5 =>
 Jr (gI (a0 + t5)) fun t6 =>
 some t6
noncomputable def Yd (a0 : T_tag_Value) : Option (Int) :=
 Ql (decide (a0.Kind = 2)) (Jr (gI ((a0.Text.length : Int) + 1)) fun t10 =>
 some t10) (Ql (decide (a0.Kind = 7)) (some (a0.Text.length : Int)) (Ql (decide (a0.Kind = 5)) (some (a0.Ratios.length : Int)) (Ql (decide (a0.Kind = 13)) (some 1) (some (a0.Ints.length : Int)))))
noncomputable def Wq (a0 : T_tag_Value) : Option (Int) :=
 Jr (Yd a0) fun t4 =>
 Jr (Zc a0.Kind) fun t7 =>
 Jr (gI (t4 * t7)) fun t8 =>
 some t8
noncomputable def W0 (x17_2 : Int) (next1 : ((Int × Int) → Option (Int))) (x1_3 : Int) : Option (Int) :=
 Jr (gI (x17_2 + 1)) fun t42 =>
 next1 (x1_3, t42)
noncomputable def Z9 (a0 : (List T_tag_Entry)) (self : ((List T_tag_Entry) × Int) → Option (Int)) (next1 : ((Int × Int) → Option (Int))) (x1_2 : Int) (x17_2 : Int) : Option (Int) :=
 Ql (decide (x17_2 < (a0.length : Int))) (Jr (Yp a0 x17_2) fun t19 =>
 Ql (decide (t19.Value.Kind = 13)) (Jr (self (t19.Value.Entries, x1_2)) fun t30 =>
 W0 x17_2 next1 t30) (Jr (Wq t19.Value) fun t34 =>
 Ql (decide (4 < t34)) (Jr (tag_even x1_2) fun t37 =>
 Jr (Wq t19.Value) fun t40 =>
 Jr (gI (t37 + t40)) fun t41 =>
 W0 x17_2 next1 t41) (W0 x17_2 next1 x1_2))) (some x1_2)
noncomputable def Y7 (self : ((List T_tag_Entry) × Int) → Option (Int)) (a0 : (List T_tag_Entry)) (a1 : Int) : Option (Int) :=
 Jr (tag_even a1) fun t8 =>
 Jr (gI (t8 + 2)) fun t9 =>
 Jr (gI (12 * (a0.length : Int))) fun t12 =>
 Jr (gI (t9 + t12)) fun t13 =>
 Jr (gI (t13 + 4)) fun t14 =>
 V8 (fun next1 s => Z9 a0 self next1 s.1 s.2) (t14, 0)
noncomputable def tag_dirEnd (a0 : (List T_tag_Entry)) (a1 : Int) : Option (Int) :=
 V8 (fun (self : ((List T_tag_Entry) × Int) → Option (Int)) (s : (List T_tag_Entry) × Int) => Y7 self s.1 s.2) (a0, a1)
noncomputable def Wm (a0 : T_tag_File) (next1 : ((Int × Int) → Option (Int))) (x3_2 : Int) (x9_2 : Int) : Option (Int) :=
 Ql (decide (x9_2 < (a0.Dirs.length : Int))) (Jr (Yp a0.Dirs x9_2) fun t11 =>
 Jr (tag_dirEnd t11 x3_2) fun t15 =>
 Jr (gI (x9_2 + 1)) fun t16 =>
 next1 (t15, t16)) (some x3_2)
noncomputable def tag_size (a0 : T_tag_File) : Option (Int) :=
 V8 (fun next1 s => Wm a0 next1 s.1 s.2) (8, 0)
noncomputable def tag_Check_j1 (a0 : T_tag_File) : Option (Int) :=
 Jr (tag_size a0) fun t24 =>
 Ql (decide (65000 < t24)) (some 4) (some 0)
noncomputable def Vx (a0 : T_tag_File) (next2 : ((Int) → Option (Int))) (x13_2 : Int) : Option (Int) :=
 Ql (decide (x13_2 < (a0.Dirs.length : Int))) (Jr (Yp a0.Dirs x13_2) fun t15 =>
 Jr (Jar t15 1) fun t18 =>
 Ql (decide (t18 ≠ 0)) (some t18) (Jr (gI (x13_2 + 1)) fun t22 =>
 next2 t22)) (tag_Check_j1 a0)
noncomputable def Jaf (a0 : T_tag_File) : Option (Int) :=
 Ql (decide (20 < (a0.Dirs.length : Int))) (some 4) (V8 (fun next2 s => Vx a0 next2 s) 0)
noncomputable def Jaq (a0 : T_tag_Value) : Option (Int) :=
 Ql (decide (a0.Kind ≠ 13)) (Jr (Ug a0) fun t8 =>
 some t8) (Jr (Vq a0) fun t10 =>
 Ql (decide (t10 ≠ 0)) (some t10) (Jr (Jar a0.Entries 1) fun t16 =>
 some t16))
noncomputable def Za (a0 : (List Int)) : Option ((List Int)) :=
 Jr (Ye 8 ([] : List Int) a0) fun l7 =>
 some l7
noncomputable def Wt (a0 : (List T_tag_Ratio)) : Option ((List T_tag_Ratio)) :=
 Jr (Ye 16 ([] : List T_tag_Ratio) a0) fun l7 =>
 some l7
noncomputable def Z4 (a0 : Int) (a1 : Int) (a2 : Int) : Option (Bool) :=
 Ql (decide (a0 < a1)) (some true) (some (decide (a2 < a0)))
noncomputable def where_isLat (a0 : Int) : Option (Bool) :=
 Jr (Z4 a0 (-90000000) 90000000) fun t4 =>
 some (!t4)
noncomputable def where_isLon (a0 : Int) : Option (Bool) :=
 Jr (Z4 a0 (-180000000) 179999999) fun t4 =>
 some (!t4)
noncomputable def Yt (a0 : T_api_Place) : Option (Int) :=
 Jr (where_isLat a0.Lat) fun t5 =>
 Ql (!t5) (some 2) (Jr (where_isLon a0.Lon) fun t10 =>
 Ql (!t10) (some 2) (some 0))
noncomputable def Ul (x0 : Int) (x3 : (List UInt8)) : Option ((List UInt8)) :=
 Jr (gRem x0 1000000) fun t10 =>
 Jr (gItoa t10) fun t11 =>
 Jr (gQuo x0 1000000) fun t14 =>
 Jr (gItoa t14) fun t15 =>
 Jr (gCat x3 t15) fun t16 =>
 Jr (gCat t16 [46]) fun t17 =>
 Jr (gI (6 - (t11.length : Int))) fun t20 =>
 Jr (gRep [48] t20) fun t21 =>
 Jr (gCat t17 t21) fun t22 =>
 Jr (gCat t22 t11) fun t24 =>
 some t24
noncomputable def Zd (a0 : Int) : Option ((List UInt8)) :=
 Ql (decide (a0 < 0)) (Jr (gI (-a0)) fun t8 =>
 Ul t8 [45]) (Ul a0 [])
noncomputable def where_PlaceText (a0 : T_api_Place) : Option ((List UInt8) × Int) :=
 Jr (Yt a0) fun t6 =>
 Ql (decide (t6 ≠ 0)) (some ([], t6)) (Jr (Zd a0.Lat) fun t12 =>
 Jr (gCat t12 [32]) fun t13 =>
 Jr (Zd a0.Lon) fun t16 =>
 Jr (gCat t13 t16) fun t17 =>
 some (t17, 0))
noncomputable def Jap  : Option (Bool) :=
 Jr (where_PlaceText (⟨0, 0⟩ : T_api_Place)) fun t5 =>
 Ql (decide (t5.2 = 0)) (some (decide (t5.1 = [48, 46, 48, 48, 48, 48, 48, 48, 32, 48, 46, 48, 48, 48, 48, 48, 48]))) (some false)
noncomputable def tag_Ratios (a0 : Int) : Option ((List T_tag_Ratio) × Int) :=
 Jr (Yk a0 0 180000000) fun t7 =>
 Ql t7 (some (([] : List T_tag_Ratio), 2)) (Jr (gRem a0 1000000) fun t9 =>
 Jr (gI (t9 * 60)) fun t10 =>
 Jr (gRem t10 1000000) fun t12 =>
 Jr (gI (t12 * 60)) fun t13 =>
 Jr (gQuo a0 1000000) fun t15 =>
 Jr (gQuo t10 1000000) fun t18 =>
 Jr (gQuo t13 100) fun t21 =>
 some (([(⟨t15, 1⟩ : T_tag_Ratio), (⟨t18, 1⟩ : T_tag_Ratio), (⟨t21, 10000⟩ : T_tag_Ratio)] : List T_tag_Ratio), 0))
noncomputable def tag_dirOfG : List T_tag_Entry → List Int → Option (Option (List Nat))
 | _, [] => some (some [])
 | l, t :: ts => Jr (W2 l t) fun p => Ql (!p.2) (some none) (Jr (Yp l p.1) fun e => Ql (decide (e.Value.Kind ≠ 13)) (some none) (Jr (tag_dirOfG e.Value.Entries ts) fun r => some (r.map (p.1.toNat :: ·))))
noncomputable def tag_dirOf (ls : List (List T_tag_Entry)) (path : List Int) : Option (Option (List Nat)) :=
 Ql (decide ((path.length : Int) < 2)) (some none) (Jr (Yp path 0) fun p0 => Jr (gI ((ls.length : Int) - 1)) fun m => Jr (Yk p0 0 m) fun o => Ql o (some none) (Jr (Yp ls p0) fun l => Jr (gI ((path.length : Int) - 1)) fun q => Jr (Yu path 1 q) fun ts => Jr (tag_dirOfG l ts) fun r => some (r.map (p0.toNat :: ·))))
def withE (e : T_tag_Entry) (l : List T_tag_Entry) : T_tag_Entry := ⟨e.Tag, ⟨e.Value.Kind, e.Value.Text, e.Value.Ints, e.Value.Ratios, l⟩⟩
def getL : List Nat → List T_tag_Entry → List T_tag_Entry
 | [], l => l
 | n :: ks, l => match l[n]? with
  | some e => getL ks e.Value.Entries
  | none => []
def putL : List Nat → List T_tag_Entry → List T_tag_Entry → List T_tag_Entry
 | [], _, l' => l'
 | n :: ks, l, l' => match l[n]? with
  | some e => l.set n (withE e (putL ks e.Value.Entries l'))
  | none => l
def getF : List Nat → List (List T_tag_Entry) → List T_tag_Entry
 | [], _ => []
 | i :: ks, ls => match ls[i]? with
  | some l => getL ks l
  | none => []
def putF : List Nat → List (List T_tag_Entry) → List T_tag_Entry → List (List T_tag_Entry)
 | [], ls, _ => ls
 | i :: ks, ls, l' => match ls[i]? with
  | some l => ls.set i (putL ks l l')
  | none => ls
def fits : Nat → List T_tag_Entry → Prop
 | 0, _ => False
 | d + 1, xs => xs.length ≤ 1000000 ∧ ∀ x ∈ xs, x.Value.Ints.length ≤ 2000000 ∧ x.Value.Ratios.length ≤ 2000000 ∧ fits d x.Value.Entries
def fitV (d : Nat) (x : T_tag_Value) : Prop := x.Ints.length ≤ 2000000 ∧ x.Ratios.length ≤ 2000000 ∧ fits d x.Entries
def fitF (d : Nat) (f : T_tag_File) : Prop := f.Dirs.length ≤ 1000000 ∧ ∀ l ∈ f.Dirs, fits d l
def noF : T_tag_File := ⟨false, []⟩
def noV : T_tag_Value := ⟨0, [], [], [], []⟩
noncomputable def tag_PutE (ks : List Nat) (a0 : T_tag_File) (l' : List T_tag_Entry) : Option (T_tag_File × Int) :=
 Jr (Jaf ⟨a0.Big, putF ks a0.Dirs l'⟩) fun c => Ql (decide (c ≠ 0)) (some (noF, c)) (some (⟨a0.Big, putF ks a0.Dirs l'⟩, 0))
noncomputable def tag_Put (a0 : T_tag_File) (a1 : (List Int)) (a2 : T_tag_Value) : Option (T_tag_File × Int) :=
 Jr (Jaf a0) fun t => Ql (decide (t ≠ 0)) (some (noF, t)) (Jr (Jaq a2) fun u => Ql (decide (u ≠ 0)) (some (noF, u)) (open Classical in if fitF 8 a0 ∧ fitV 8 a2 then Jr (tag_dirOf a0.Dirs a1) fun r => match r with
  | none => some (noF, 7)
  | some ks => Jr (gI ((a1.length : Int) - 1)) fun q => Jr (Yp a1 q) fun t => Jr (W2 (getF ks a0.Dirs) t) fun p => Ql p.2 (Jr (gSet (getF ks a0.Dirs) p.1 (⟨t, a2⟩ : T_tag_Entry)) fun l' => tag_PutE ks a0 l') (Jr (gInsN 104 (getF ks a0.Dirs) p.1 (⟨t, a2⟩ : T_tag_Entry)) fun l' => tag_PutE ks a0 l')
  else none))
noncomputable def tag_isKind (a0 : Int) : Option (Bool) :=
 Jr (Yk a0 192 254) fun t4 =>
 Ql (!t4) (Ql (decide (a0 ≠ 216)) (some (decide (a0 ≠ 217))) (some false)) (some false)
noncomputable def tag_Segments_j1 (x0 : (List UInt8)) (l : (List T_tag_Segment)) : Option ((List T_tag_Segment) × Int) :=
 Ql (decide ((x0.length : Int) < 4)) (some (([] : List T_tag_Segment), 8)) (Jr (gI ((x0.length : Int) - 2)) fun t80 =>
 Jr (Yu x0 t80 x0.length) fun t81 =>
 Ql (decide (t81 ≠ [255, 217])) (some (([] : List T_tag_Segment), 8)) (Jr (gI ((x0.length : Int) - 2)) fun t88 =>
 Jr (Yu x0 2 t88) fun t89 =>
 Jr (Ye 24 l ([(⟨218, t89⟩ : T_tag_Segment)] : List T_tag_Segment)) fun l92 =>
 Ql (decide (200 < (l92.length : Int))) (some (([] : List T_tag_Segment), 4)) (some (l92, 0))))
noncomputable def Qh (next2 : (((List UInt8) × (List T_tag_Segment)) → Option ((List T_tag_Segment) × Int))) (x0_3 : (List UInt8)) (l_3 : (List T_tag_Segment)) : Option ((List T_tag_Segment) × Int) :=
 Ql (decide ((x0_3.length : Int) < 2)) (some (([] : List T_tag_Segment), 8)) (Jr (Ue x0_3 0) fun t25 =>
 Ql (decide (t25 ≠ 255)) (some (([] : List T_tag_Segment), 8)) (Jr (Ue x0_3 1) fun t30 =>
 Jr (gK (-9223372036854775808) 9223372036854775807 t30) fun t31 =>
 Jr (tag_isKind t31) fun t32 =>
 Ql (!t32) (some (([] : List T_tag_Segment), 8)) (Jr (Ue x0_3 1) fun t36 =>
 Jr (gK (-9223372036854775808) 9223372036854775807 t36) fun t37 =>
 Ql (decide (t37 = 218)) (tag_Segments_j1 x0_3 l_3) (Ql (decide ((x0_3.length : Int) < 4)) (some (([] : List T_tag_Segment), 8)) (Jr (Ue x0_3 2) fun t44 =>
 Jr (gK (-9223372036854775808) 9223372036854775807 t44) fun t45 =>
 Jr (gShl t45 8) fun t46 =>
 Jr (Ue x0_3 3) fun t48 =>
 Jr (gK (-9223372036854775808) 9223372036854775807 t48) fun t49 =>
 Ql (decide ((V0 (bOr 64 t46 t49)) < 2)) (some (([] : List T_tag_Segment), 8)) (Jr (gI ((x0_3.length : Int) - 2)) fun t57 =>
 Ql (decide (t57 < (V0 (bOr 64 t46 t49)))) (some (([] : List T_tag_Segment), 8)) (Jr (gI (2 + (V0 (bOr 64 t46 t49)))) fun t64 =>
 Jr (Yu x0_3 4 t64) fun t65 =>
 Jr (Ye 24 l_3 ([(⟨t37, t65⟩ : T_tag_Segment)] : List T_tag_Segment)) fun l68 =>
 Jr (gI (2 + (V0 (bOr 64 t46 t49)))) fun t71 =>
 Jr (Yu x0_3 t71 x0_3.length) fun t72 =>
 next2 (t72, l68))))))))
noncomputable def Wp (a0 : (List UInt8)) : Option ((List T_tag_Segment) × Int) :=
 Ql (decide (200000 < (a0.length : Int))) (some (([] : List T_tag_Segment), 4)) (Ql (decide ((a0.length : Int) < 2)) (some (([] : List T_tag_Segment), 8)) (Jr (Yu a0 0 2) fun t15 =>
 Ql (decide (t15 ≠ [255, 216])) (some (([] : List T_tag_Segment), 8)) (Jr (Yu a0 2 a0.length) fun t19 =>
 V8 (fun next2 s => Qh next2 s.1 s.2) (t19, ([] : List T_tag_Segment)))))
noncomputable def V6 (a1 : Int) (x14_2 : Int) (l_2 : (List Int)) (next1 : ((Int × (List Int)) → Option ((List Int)))) (x9 : Int) : Option ((List Int)) :=
 Jr (gI (8 * x14_2)) fun t27 =>
 Jr (gShr 64 a1 t27) fun t28 =>
 Jr (Yp l_2 x9) fun t30 =>
 Jr (gSet l_2 x9 (wU8 t28)) fun l0 =>
 Jr (gI (x14_2 + 1)) fun t31 =>
 next1 (t31, l0)
noncomputable def Xu (a0 : Bool) (a1 : Int) (a2 : Int) (t11 : (List Int)) (next1 : ((Int × (List Int)) → Option ((List Int)))) (x14_2 : Int) (l_2 : (List Int)) : Option ((List Int)) :=
 Ql (decide (x14_2 < (t11.length : Int))) (Ql a0 (Jr (gI (a2 - 1)) fun t20 =>
 Jr (gI (t20 - x14_2)) fun t22 =>
 V6 a1 x14_2 l_2 next1 t22) (V6 a1 x14_2 l_2 next1 x14_2)) (some l_2)
noncomputable def Jf (a0 : Bool) (a1 : Int) (a2 : Int) : Option ((List Int)) :=
 Jr (gMake 1 a2 0) fun t11 =>
 V8 (fun next1 s => Xu a0 a1 a2 t11 next1 s.1 s.2) (0, t11)
noncomputable def Vf (a0 : T_tag_writer) (a1 : Int) (a2 : Int) : Option (T_tag_writer) :=
 Jr (Yu a0.out_ a1 a0.out_.length) fun t11 =>
 Jr (Jf a0.big_ a2 4) fun t17 =>
 some (⟨a0.big_, (cpyL a0.out_ a1 t11.length t17)⟩ : T_tag_writer)
noncomputable def V9 (a0 : T_tag_writer) (l : (List Int)) : Option (Int × T_tag_writer) :=
 some ((l.length : Int), (⟨a0.big_, l⟩ : T_tag_writer))
noncomputable def Wi (a0 : T_tag_writer) : Option (Int × T_tag_writer) :=
 Jr (gRem (a0.out_.length : Int) 2) fun t8 =>
 Ql (decide (t8 ≠ 0)) (Jr (Ye 1 a0.out_ ([0] : List Int)) fun l16 =>
 V9 a0 l16) (V9 a0 a0.out_)
noncomputable def Z7 (a0 : Bool) (a1 : T_tag_Value) (next2 : ((Int × (List Int)) → Option ((List Int)))) (x43_2 : Int) (l_3 : (List Int)) : Option ((List Int)) :=
 Ql (decide (x43_2 < (a1.Ratios.length : Int))) (Jr (Yp a1.Ratios x43_2) fun t45 =>
 Jr (Jf a0 t45.Num 4) fun t51 =>
 Jr (Ye 1 l_3 t51) fun l52 =>
 Jr (Jf a0 t45.Den 4) fun t57 =>
 Jr (Ye 1 l52 t57) fun l58 =>
 Jr (gI (x43_2 + 1)) fun t59 =>
 next2 (t59, l58)) (some l_3)
noncomputable def Uy (a0 : Bool) (a1 : T_tag_Value) (l : (List Int)) : Option ((List Int)) :=
 V8 (fun next2 s => Z7 a0 a1 next2 s.1 s.2) (0, l)
noncomputable def Z3 (a0 : Bool) (a1 : T_tag_Value) (next3 : ((Int × (List Int)) → Option ((List Int)))) (x27_2 : Int) (l_5 : (List Int)) : Option ((List Int)) :=
 Ql (decide (x27_2 < (a1.Ints.length : Int))) (Jr (Yp a1.Ints x27_2) fun t29 =>
 Jr (Zc a1.Kind) fun t36 =>
 Jr (Jf a0 t29 t36) fun t37 =>
 Jr (Ye 1 l_5 t37) fun l38 =>
 Jr (gI (x27_2 + 1)) fun t39 =>
 next3 (t39, l38)) (Uy a0 a1 l_5)
noncomputable def Xz (a0 : Bool) (a1 : T_tag_Value) : Option ((List Int)) :=
 Ql (decide (a1.Kind = 2)) (Jr (gByt a1.Text) fun t16 =>
 Jr (gApL 1 t16 ([0] : List Int)) fun l18 =>
 some l18) (Ql (decide (a1.Kind = 7)) (Jr (gByt a1.Text) fun t23 =>
 some t23) (V8 (fun next3 s => Z3 a0 a1 next3 s.1 s.2) (0, ([] : List Int))))
noncomputable def Jal (t15 : (Int × T_tag_writer)) (l : (List Int)) (m : Bool) (l_2 : (List Int)) : Option (Int × Int × T_tag_writer) :=
 some (t15.1, (l.length : Int), (⟨m, l_2⟩ : T_tag_writer))
noncomputable def Zq (x110_2 : Int) (next3 : ((Int × Bool × (List Int)) → Option (Int × Int × T_tag_writer))) (m_4 : Bool) (l_5 : (List Int)) : Option (Int × Int × T_tag_writer) :=
 Jr (gI (x110_2 + 1)) fun t169 =>
 next3 (t169, m_4, l_5)
noncomputable def Ym (a1 : (List T_tag_Entry)) (self : (T_tag_writer × (List T_tag_Entry)) → Option (Int × Int × T_tag_writer)) (t15 : (Int × T_tag_writer)) (l : (List Int)) (next3 : ((Int × Bool × (List Int)) → Option (Int × Int × T_tag_writer))) (x110_2 : Int) (m_3 : Bool) (l_4 : (List Int)) : Option (Int × Int × T_tag_writer) :=
 Ql (decide (x110_2 < (a1.length : Int))) (Jr (Yp a1 x110_2) fun t113 =>
 Jr (gI (t15.1 + 2)) fun t116 =>
 Jr (gI (12 * x110_2)) fun t118 =>
 Jr (gI (t116 + t118)) fun t119 =>
 Jr (gI (t119 + 8)) fun t120 =>
 Ql (decide (t113.Value.Kind = 13)) (Jr (self ((⟨m_3, l_4⟩ : T_tag_writer), t113.Value.Entries)) fun t130 =>
 Jr (Vf t130.2.2 t120 t130.1) fun t136 =>
 Zq x110_2 next3 t136.big_ t136.out_) (Jr (Xz m_3 t113.Value) fun t143 =>
 Ql (decide ((t143.length : Int) ≤ 4)) (Jr (Yu l_4 t120 l_4.length) fun t152 =>
 Zq x110_2 next3 m_3 (cpyL l_4 t120 t152.length t143)) (Jr (Wi (⟨m_3, l_4⟩ : T_tag_writer)) fun t158 =>
 Jr (Vf t158.2 t120 t158.1) fun t159 =>
 Jr (Ye 1 t159.out_ t143) fun l166 =>
 Zq x110_2 next3 t159.big_ l166))) (Jal t15 l m_3 l_4)
noncomputable def Vt (a1 : (List T_tag_Entry)) (self : (T_tag_writer × (List T_tag_Entry)) → Option (Int × Int × T_tag_writer)) (t15 : (Int × T_tag_writer)) (l : (List Int)) : Option (Int × Int × T_tag_writer) :=
 Jr (Ye 1 l ([0, 0, 0, 0] : List Int)) fun l105 =>
 V8 (fun next3 s => Ym a1 self t15 l next3 s.1 s.2.1 s.2.2) (0, t15.2.big_, l105)
noncomputable def X9 (a1 : (List T_tag_Entry)) (self : (T_tag_writer × (List T_tag_Entry)) → Option (Int × Int × T_tag_writer)) (t15 : (Int × T_tag_writer)) (next5 : ((Int × (List Int)) → Option (Int × Int × T_tag_writer))) (x33_2 : Int) (l_7 : (List Int)) : Option (Int × Int × T_tag_writer) :=
 Ql (decide (x33_2 < (a1.length : Int))) (Jr (Yp a1 x33_2) fun t35 =>
 Jr (Jf t15.2.big_ t35.Tag 2) fun t48 =>
 Jr (Ye 1 l_7 t48) fun l49 =>
 Jr (Jf t15.2.big_ t35.Value.Kind 2) fun t64 =>
 Jr (Ye 1 l49 t64) fun l65 =>
 Jr (Yd t35.Value) fun t79 =>
 Jr (Jf t15.2.big_ t79 4) fun t80 =>
 Jr (Ye 1 l65 t80) fun l81 =>
 Jr (Ye 1 l81 ([0, 0, 0, 0] : List Int)) fun l90 =>
 Jr (gI (x33_2 + 1)) fun t93 =>
 next5 (t93, l90)) (Vt a1 self t15 l_7)
noncomputable def X4 (self : (T_tag_writer × (List T_tag_Entry)) → Option (Int × Int × T_tag_writer)) (a0 : T_tag_writer) (a1 : (List T_tag_Entry)) : Option (Int × Int × T_tag_writer) :=
 Jr (Wi a0) fun t15 =>
 Jr (Jf t15.2.big_ (a1.length : Int) 2) fun t27 =>
 Jr (Ye 1 t15.2.out_ t27) fun l28 =>
 V8 (fun next5 s => X9 a1 self t15 next5 s.1 s.2) (0, l28)
noncomputable def Jan (a0 : T_tag_writer) (a1 : (List T_tag_Entry)) : Option (Int × Int × T_tag_writer) :=
 V8 (fun (self : (T_tag_writer × (List T_tag_Entry)) → Option (Int × Int × T_tag_writer)) (s : T_tag_writer × (List T_tag_Entry)) => X4 self s.1 s.2) (a0, a1)
noncomputable def tag_written_j2 (m : Bool) (l_2 : (List Int)) : Option ((List UInt8)) :=
 some (Z8 l_2)
noncomputable def Zf (a0 : T_tag_File) (next3 : ((Int × Int × Bool × (List Int)) → Option ((List UInt8)))) (x4_2 : Int) (x50_2 : Int) (m_3 : Bool) (l_4 : (List Int)) : Option ((List UInt8)) :=
 Ql (decide (x50_2 < (a0.Dirs.length : Int))) (Jr (Yp a0.Dirs x50_2) fun t52 =>
 Jr (Jan (⟨m_3, l_4⟩ : T_tag_writer) t52) fun t57 =>
 Jr (Vf t57.2.2 x4_2 t57.1) fun t63 =>
 Jr (gI (x50_2 + 1)) fun t65 =>
 next3 (t57.2.1, t65, t63.big_, t63.out_)) (tag_written_j2 m_3 l_4)
noncomputable def Uj (a0 : T_tag_File) (l : (List Int)) : Option ((List UInt8)) :=
 Jr (Jf a0.Big 42 2) fun t29 =>
 Jr (gApN 1 l t29) fun l30 =>
 Jr (Ye 1 l30 ([0, 0, 0, 0] : List Int)) fun l44 =>
 V8 (fun next3 s => Zf a0 next3 s.1 s.2.1 s.2.2.1 s.2.2.2) ((l30.length : Int), 0, a0.Big, l44)
noncomputable def tag_written (a0 : T_tag_File) : Option ((List UInt8)) :=
 Ql a0.Big (Uj a0 ([77, 77] : List Int)) (Uj a0 ([73, 73] : List Int))
noncomputable def J8 (a0 : (List T_tag_Segment)) (a1 : (T_tag_Segment → Option (Bool))) (next1 : ((Int) → Option (Int))) (x8_2 : Int) : Option (Int) :=
 Ql (decide (x8_2 < (a0.length : Int))) (Jr (Yp a0 x8_2) fun t14 =>
 Jr (a1 t14) fun t16 =>
 Ql t16 (some x8_2) (Jr (gI (x8_2 + 1)) fun t18 =>
 next1 t18)) (some (-1))
noncomputable def Zs (a0 : (List T_tag_Segment)) (a1 : (T_tag_Segment → Option (Bool))) : Option (Int) :=
 V8 (fun next1 s => J8 a0 a1 next1 s) 0
noncomputable def Vi (a0 : T_tag_Segment) : Option (Bool) :=
 Ql (decide (a0.Kind = 225)) (Ql (decide (6 ≤ (a0.Text.length : Int))) (Jr (Yu a0.Text 0 6) fun t15 =>
 some (decide (t15 = [69, 120, 105, 102, 0, 0]))) (some false)) (some false)
noncomputable def Z0 (a0 : (List T_tag_Segment)) : Option (Int) :=
 Jr (Zs a0 Vi) fun t4 =>
 some t4
noncomputable def Ur (a0 : T_tag_Segment) (a1 : Bool) : Option (Int) :=
 Jr (tag_isKind a0.Kind) fun t8 =>
 Ql (!t8) (some 10) (Ql (decide ((decide (a0.Kind = 218)) ≠ a1)) (some 5) (Ql (decide (a0.Kind ≠ 218)) (Ql (decide (65533 < (a0.Text.length : Int))) (some 4) (some 0)) (some 0)))
noncomputable def tag_Joined_j1 (l : (List Int)) : Option ((List UInt8) × Int) :=
 Jr (gApN 1 l ([255, 217] : List Int)) fun l61 =>
 Ql (decide (200000 < (l61.length : Int))) (some ([], 4)) (some ((Z8 l61), 0))
noncomputable def Uz (x20_2 : Int) (next2 : ((Int × (List Int)) → Option ((List UInt8) × Int))) (l_4 : (List Int)) : Option ((List UInt8) × Int) :=
 Jr (gI (x20_2 + 1)) fun t58 =>
 next2 (t58, l_4)
noncomputable def U3 (x20_2 : Int) (next2 : ((Int × (List Int)) → Option ((List UInt8) × Int))) (t23 : T_tag_Segment) (l_5 : (List Int)) : Option ((List UInt8) × Int) :=
 Ql (decide ((l_5.length : Int) ≤ 200000)) (Jr (gApL 1 l_5 (J7 t23.Text)) fun l57 =>
 Uz x20_2 next2 l57) (Uz x20_2 next2 l_5)
noncomputable def Yz (a0 : (List T_tag_Segment)) (next2 : ((Int × (List Int)) → Option ((List UInt8) × Int))) (x20_2 : Int) (l_3 : (List Int)) : Option ((List UInt8) × Int) :=
 Ql (decide (x20_2 < (a0.length : Int))) (Jr (Yp a0 x20_2) fun t23 =>
 Jr (gI ((a0.length : Int) - 1)) fun t29 =>
 Jr (Ur t23 (decide (x20_2 = t29))) fun t31 =>
 Ql (decide (t31 ≠ 0)) (some ([], t31)) (Jr (gApN 1 l_3 ([255, (wU8 t23.Kind)] : List Int)) fun l40 =>
 Ql (decide (t23.Kind ≠ 218)) (Jr (gI ((t23.Text.length : Int) + 2)) fun t48 =>
 Jr (Jf true t48 2) fun t49 =>
 Jr (Ye 1 l40 t49) fun l50 =>
 U3 x20_2 next2 t23 l50) (U3 x20_2 next2 t23 l40))) (tag_Joined_j1 l_3)
noncomputable def tag_Joined (a0 : (List T_tag_Segment)) : Option ((List UInt8) × Int) :=
 Ql (decide (200 < (a0.length : Int))) (some ([], 4)) (Ql (decide ((a0.length : Int) = 0)) (some ([], 5)) (V8 (fun next2 s => Yz a0 next2 s.1 s.2) (0, ([255, 216] : List Int))))
noncomputable def Zy (l : (List T_tag_Segment)) : Option ((List UInt8) × Int) :=
 Jr (tag_Joined l) fun t41 =>
 some (t41.1, t41.2)
noncomputable def Wd (a0 : (List UInt8)) (a1 : T_tag_File) : Option ((List UInt8) × Int) :=
 Jr (Jaf a1) fun t12 =>
 Ql (decide (t12 ≠ 0)) (some ([], t12)) (Jr (Wp a0) fun t18 =>
 Ql (decide (t18.2 ≠ 0)) (some ([], t18.2)) (Jr (tag_written a1) fun t25 =>
 Jr (gCat [69, 120, 105, 102, 0, 0] t25) fun t26 =>
 Jr (Z0 t18.1) fun t29 =>
 Ql (decide (0 ≤ t29)) (Jr (Yp t18.1 t29) fun t35 =>
 Jr (gSet t18.1 t29 (⟨225, t26⟩ : T_tag_Segment)) fun l3 =>
 Zy l3) (Jr (gInsN 24 t18.1 0 (⟨225, t26⟩ : T_tag_Segment)) fun t39 =>
 Zy t39)))
noncomputable def tag_begins (a0 : (List UInt8)) : Option (Bool) :=
 Ql (decide ((a0.length : Int) < 8)) (some false) (Jr (Yu a0 0 4) fun t7 =>
 Ql (decide (t7 = [73, 73, 42, 0])) (some true) (Jr (Yu a0 0 4) fun t11 =>
 some (decide (t11 = [77, 77, 0, 42]))))
noncomputable def Wx (a1 : (List UInt8)) (a2 : Int) (x9_2 : Int) (x13_2 : Int) (next1 : ((Int × Int) → Option (Int))) (x11 : Int) : Option (Int) :=
 Jr (gShl x9_2 8) fun t23 =>
 Jr (gI (a2 + x11)) fun t27 =>
 Jr (Ue a1 t27) fun t28 =>
 Jr (gK (-9223372036854775808) 9223372036854775807 t28) fun t29 =>
 Jr (gI (x13_2 + 1)) fun t31 =>
 next1 ((V0 (bOr 64 t23 t29)), t31)
noncomputable def Y6 (a0 : Bool) (a1 : (List UInt8)) (a2 : Int) (a3 : Int) (next1 : ((Int × Int) → Option (Int))) (x9_2 : Int) (x13_2 : Int) : Option (Int) :=
 Ql (decide (x13_2 < a3)) (Jr (gI (a3 - 1)) fun t17 =>
 Jr (gI (t17 - x13_2)) fun t19 =>
 Ql a0 (Wx a1 a2 x9_2 x13_2 next1 x13_2) (Wx a1 a2 x9_2 x13_2 next1 t19)) (some x9_2)
noncomputable def Um (a0 : Bool) (a1 : (List UInt8)) (a2 : Int) (a3 : Int) : Option (Int) :=
 V8 (fun next1 s => Y6 a0 a1 a2 a3 next1 s.1 s.2) (0, 0)
noncomputable def Jk (a0 : T_tag_reader) (a1 : Int) (a2 : Int) : Option (Int) :=
 Jr (Um a0.big_ a0.s_ a1 a2) fun t17 =>
 some t17
noncomputable def Vb (a0 : T_tag_reader) (a1 : Int) (a2 : Int) : Option (Bool) :=
 Ql (decide (8 ≤ a1)) (Ql (decide (a2 ≤ (a0.s_.length : Int))) (Jr (gI ((a0.s_.length : Int) - a2)) fun t26 =>
 some (decide (a1 ≤ t26))) (some false)) (some false)
noncomputable def Qr (a0 : T_tag_reader) (a1 : Int) : Option (T_tag_reader) :=
 Ql (decide (a0.no_ = 0)) (some (⟨a0.s_, a0.big_, a0.parts_, a0.seen_, a0.dirs_, a0.found_, a1⟩ : T_tag_reader)) (some a0)
noncomputable def Zx (x25_2 : Int) (next1 : ((Int × (List UInt8) × Bool × Int × Nat × Int × (List T_tag_Span) × (List (Int × Bool))) → Option ((List UInt8) × T_tag_reader))) (m_11 : (List UInt8)) (m_12 : Bool) (m_13 : Int) (m_14 : Nat) (m_15 : Int) (l_3 : (List T_tag_Span)) (mp_3 : (List (Int × Bool))) : Option ((List UInt8) × T_tag_reader) :=
 Jr (gI (x25_2 + 1)) fun t34 =>
 next1 (t34, m_11, m_12, m_13, m_14, m_15, l_3, mp_3)
noncomputable def Xd (t22 : (List UInt8)) (next1 : ((Int × (List UInt8) × Bool × Int × Nat × Int × (List T_tag_Span) × (List (Int × Bool))) → Option ((List UInt8) × T_tag_reader))) (x25_2 : Int) (m_6 : (List UInt8)) (m_7 : Bool) (m_8 : Int) (m_9 : Nat) (m_10 : Int) (l_2 : (List T_tag_Span)) (mp_2 : (List (Int × Bool))) : Option ((List UInt8) × T_tag_reader) :=
 Ql (decide (x25_2 < (t22.length : Int))) (Jr (Ue t22 x25_2) fun t30 =>
 Ql (decide (t30 = 0)) (Jr (Qr (⟨m_6, m_7, l_2, mp_2, m_8, m_9, m_10⟩ : T_tag_reader) 9) fun t33 =>
 Zx x25_2 next1 t33.s_ t33.big_ t33.dirs_ t33.found_ t33.no_ t33.parts_ t33.seen_) (Zx x25_2 next1 m_6 m_7 m_8 m_9 m_10 l_2 mp_2)) (some (t22, (⟨m_6, m_7, l_2, mp_2, m_8, m_9, m_10⟩ : T_tag_reader)))
noncomputable def Uo (a0 : T_tag_reader) (a1 : (List UInt8)) : Option ((List UInt8) × T_tag_reader) :=
 Ql (decide (a1 = [])) (Jr (Qr a0 1) fun t17 =>
 some ([], t17)) (Jr (gI ((a1.length : Int) - 1)) fun t12 =>
 Jr (Ue a1 t12) fun t13 =>
 Ql (decide (t13 ≠ 0)) (Jr (Qr a0 1) fun t17_2 =>
 some ([], t17_2)) (Jr (gI ((a1.length : Int) - 1)) fun t21 =>
 Jr (Yu a1 0 t21) fun t22 =>
 V8 (fun next1 s => Xd t22 next1 s.1 s.2.1 s.2.2.1 s.2.2.2.1 s.2.2.2.2.1 s.2.2.2.2.2.1 s.2.2.2.2.2.2.1 s.2.2.2.2.2.2.2) (0, a0.s_, a0.big_, a0.dirs_, a0.found_, a0.no_, a0.parts_, a0.seen_)))
noncomputable def Zz (a1 : Int) (m : (List UInt8)) (m_2 : Bool) (m_3 : Int) (m_4 : Nat) (m_5 : Int) (l_2 : (List T_tag_Span)) (mp : (List (Int × Bool))) (m_6 : (List UInt8)) (l_3 : (List Int)) (l_4 : (List T_tag_Ratio)) : Option (T_tag_Value × T_tag_reader) :=
 some ((⟨a1, m_6, l_3, l_4, ([] : List T_tag_Entry)⟩ : T_tag_Value), (⟨m, m_2, l_2, mp, m_3, m_4, m_5⟩ : T_tag_reader))
noncomputable def X3 (a0 : T_tag_reader) (a1 : Int) (a2 : Int) (x10 : Int) (l : (List T_tag_Span)) (next3 : ((Int × (List T_tag_Ratio)) → Option (T_tag_Value × T_tag_reader))) (x107_2 : Int) (l_6 : (List T_tag_Ratio)) : Option (T_tag_Value × T_tag_reader) :=
 Ql (decide (x107_2 < a2)) (Jr (gI (8 * x107_2)) fun t115 =>
 Jr (gI (x10 + t115)) fun t116 =>
 Jr (Jk (⟨a0.s_, a0.big_, l, a0.seen_, a0.dirs_, a0.found_, a0.no_⟩ : T_tag_reader) t116 4) fun t117 =>
 Jr (gI (8 * x107_2)) fun t121 =>
 Jr (gI (x10 + t121)) fun t122 =>
 Jr (gI (t122 + 4)) fun t123 =>
 Jr (Jk (⟨a0.s_, a0.big_, l, a0.seen_, a0.dirs_, a0.found_, a0.no_⟩ : T_tag_reader) t123 4) fun t124 =>
 Jr (Ye 16 l_6 ([(⟨t117, t124⟩ : T_tag_Ratio)] : List T_tag_Ratio)) fun l127 =>
 Jr (gI (x107_2 + 1)) fun t129 =>
 next3 (t129, l127)) (Zz a1 a0.s_ a0.big_ a0.dirs_ a0.found_ a0.no_ l a0.seen_ [] ([] : List Int) l_6)
noncomputable def Zv (x50_2 : Int) (l_8 : (List Int)) (next4 : ((Int × (List Int)) → Option (T_tag_Value × T_tag_reader))) (x14 : Int) : Option (T_tag_Value × T_tag_reader) :=
 Jr (Ye 8 l_8 ([x14] : List Int)) fun l72 =>
 Jr (gI (x50_2 + 1)) fun t74 =>
 next4 (t74, l72)
noncomputable def X2 (a0 : T_tag_reader) (a1 : Int) (a2 : Int) (x10 : Int) (l : (List T_tag_Span)) (next4 : ((Int × (List Int)) → Option (T_tag_Value × T_tag_reader))) (x50_2 : Int) (l_8 : (List Int)) : Option (T_tag_Value × T_tag_reader) :=
 Ql (decide (x50_2 < a2)) (Jr (Zc a1) fun t57 =>
 Jr (gI (x50_2 * t57)) fun t58 =>
 Jr (gI (x10 + t58)) fun t59 =>
 Jr (Zc a1) fun t61 =>
 Jr (Jk (⟨a0.s_, a0.big_, l, a0.seen_, a0.dirs_, a0.found_, a0.no_⟩ : T_tag_reader) t59 t61) fun t62 =>
 Ql (decide (a1 = 9)) (Zv x50_2 l_8 next4 (V0 (wI32 t62))) (Zv x50_2 l_8 next4 t62)) (Zz a1 a0.s_ a0.big_ a0.dirs_ a0.found_ a0.no_ l a0.seen_ [] l_8 ([] : List T_tag_Ratio))
noncomputable def Zu (a0 : T_tag_reader) (a1 : Int) (a2 : Int) (t18 : Int) (x10 : Int) (l : (List T_tag_Span)) : Option (T_tag_Value × T_tag_reader) :=
 Ql (decide (a1 = 2)) (Jr (gI (x10 + t18)) fun t86 =>
 Jr (Yu a0.s_ x10 t86) fun t87 =>
 Jr (Uo (⟨a0.s_, a0.big_, l, a0.seen_, a0.dirs_, a0.found_, a0.no_⟩ : T_tag_reader) t87) fun t88 =>
 Zz a1 t88.2.s_ t88.2.big_ t88.2.dirs_ t88.2.found_ t88.2.no_ t88.2.parts_ t88.2.seen_ t88.1 ([] : List Int) ([] : List T_tag_Ratio)) (Ql (decide (a1 = 7)) (Jr (gI (x10 + t18)) fun t100 =>
 Jr (Yu a0.s_ x10 t100) fun t101 =>
 Zz a1 a0.s_ a0.big_ a0.dirs_ a0.found_ a0.no_ l a0.seen_ t101 ([] : List Int) ([] : List T_tag_Ratio)) (Ql (decide (a1 = 5)) (V8 (fun next3 s => X3 a0 a1 a2 x10 l next3 s.1 s.2) (0, ([] : List T_tag_Ratio))) (V8 (fun next4 s => X2 a0 a1 a2 x10 l next4 s.1 s.2) (0, ([] : List Int)))))
noncomputable def Us (a0 : T_tag_reader) (a1 : Int) (a2 : Int) (a3 : Int) : Option (T_tag_Value × T_tag_reader) :=
 Jr (Zc a1) fun t17 =>
 Jr (gI (a2 * t17)) fun t18 =>
 Ql (decide (4 < t18)) (Jr (Jk a0 a3 4) fun t24 =>
 Jr (Vb a0 t24 t18) fun t28 =>
 Ql (!t28) (Jr (Qr a0 2) fun t31 =>
 some ((⟨0, [], ([] : List Int), ([] : List T_tag_Ratio), ([] : List T_tag_Entry)⟩ : T_tag_Value), t31)) (Jr (gI (t24 + t18)) fun t41 =>
 Jr (Ye 16 a0.parts_ ([(⟨t24, t41⟩ : T_tag_Span)] : List T_tag_Span)) fun l44 =>
 Zu a0 a1 a2 t18 t24 l44)) (Zu a0 a1 a2 t18 a3 a0.parts_)
noncomputable def Y4 (t13 : (Int)) (m : Int) (m_2 : (List UInt8)) (l : (List Int)) (l_2 : (List T_tag_Ratio)) (l_3 : (List T_tag_Entry)) (m_3 : (List UInt8)) (m_4 : Bool) (m_5 : Int) (m_6 : Nat) (m_7 : Int) (l_4 : (List T_tag_Span)) (mp : (List (Int × Bool))) : Option (T_tag_Entry × T_tag_reader) :=
 some ((⟨t13, (⟨m, m_2, l, l_2, l_3⟩ : T_tag_Value)⟩ : T_tag_Entry), (⟨m_3, m_4, l_4, mp, m_5, m_6, m_7⟩ : T_tag_reader))
noncomputable def Y5 (a0 : T_tag_reader) (a1 : Int) (self : (T_tag_reader × Int × (List Int)) → Option ((List T_tag_Entry) × Int × T_tag_reader)) (t13 : (Int)) (t17 : (Int)) (t21 : (Int)) (l26 : (List Int)) (x51 : Bool) : Option (T_tag_Entry × T_tag_reader) :=
 Ql x51 (Jr (Qr a0 1) fun t59 =>
 Y4 t13 t17 [] ([] : List Int) ([] : List T_tag_Ratio) ([] : List T_tag_Entry) t59.s_ t59.big_ t59.dirs_ t59.found_ t59.no_ t59.parts_ t59.seen_) (Ql (decide (t17 = 13)) (Jr (gI (a1 + 8)) fun t67 =>
 Jr (Jk a0 t67 4) fun t68 =>
 Jr (self (a0, t68, l26)) fun t70 =>
 Y4 t13 t17 [] ([] : List Int) ([] : List T_tag_Ratio) t70.1 t70.2.2.s_ t70.2.2.big_ t70.2.2.dirs_ t70.2.2.found_ t70.2.2.no_ t70.2.2.parts_ t70.2.2.seen_) (Jr (gI (a1 + 8)) fun t42 =>
 Jr (Us a0 t17 t21 t42) fun t43 =>
 Y4 t13 t43.1.Kind t43.1.Text t43.1.Ints t43.1.Ratios t43.1.Entries t43.2.s_ t43.2.big_ t43.2.dirs_ t43.2.found_ t43.2.no_ t43.2.parts_ t43.2.seen_))
noncomputable def Xa (self : (T_tag_reader × Int × (List Int)) → Option ((List T_tag_Entry) × Int × T_tag_reader)) (a0 : T_tag_reader) (a1 : Int) (a2 : (List Int)) : Option (T_tag_Entry × T_tag_reader) :=
 Jr (Jk a0 a1 2) fun t13 =>
 Jr (gI (a1 + 2)) fun t16 =>
 Jr (Jk a0 t16 2) fun t17 =>
 Jr (gI (a1 + 4)) fun t20 =>
 Jr (Jk a0 t20 4) fun t21 =>
 Jr (Za a2) fun t23 =>
 Jr (Ye 8 t23 ([t13] : List Int)) fun l26 =>
 Jr (gFn (mft118 a0.found_)) fun g33 =>
 Jr (g33 l26 a1) fun t33 =>
 Jr (Zc t17) fun t47 =>
 Ql (decide (t47 = 0)) (Jr (Qr a0 10) fun t50 =>
 Y4 t13 t17 [] ([] : List Int) ([] : List T_tag_Ratio) ([] : List T_tag_Entry) t50.s_ t50.big_ t50.dirs_ t50.found_ t50.no_ t50.parts_ t50.seen_) (Ql (decide (t17 = 13)) (Y5 a0 a1 self t13 t17 t21 l26 (decide (t21 ≠ 1))) (Y5 a0 a1 self t13 t17 t21 l26 false))
noncomputable def W6 (x7 : Int) (m_11 : (List UInt8)) (m_12 : Bool) (m_13 : Int) (m_14 : Nat) (m_15 : Int) (l_3 : (List T_tag_Span)) (mp_3 : (List (Int × Bool))) (l_4 : (List T_tag_Entry)) : Option ((List T_tag_Entry) × Int × T_tag_reader) :=
 some (l_4, x7, (⟨m_11, m_12, l_3, mp_3, m_13, m_14, m_15⟩ : T_tag_reader))
noncomputable def Zo (a2 : (List Int)) (self : (T_tag_reader × Int × (List Int)) → Option ((List T_tag_Entry) × Int × T_tag_reader)) (x1_2 : Int) (x7_3 : Int) (x9_2 : Int) (x10_2 : Int) (m_21 : (List UInt8)) (m_22 : Bool) (m_23 : Int) (m_24 : Nat) (m_25 : Int) (l_7 : (List T_tag_Span)) (mp_5 : (List (Int × Bool))) (l_8 : (List T_tag_Entry)) (next4 : ((Int × Int × Int × Int × (List UInt8) × Bool × Int × Nat × Int × (List T_tag_Span) × (List (Int × Bool)) × (List T_tag_Entry)) → Option ((List T_tag_Entry) × Int × T_tag_reader))) : Option ((List T_tag_Entry) × Int × T_tag_reader) :=
 Jr (gI (x1_2 + 2)) fun t135 =>
 Jr (gI (12 * x10_2)) fun t137 =>
 Jr (gI (t135 + t137)) fun t138 =>
 Jr (Xa self (⟨m_21, m_22, l_7, mp_5, m_23, m_24, m_25⟩ : T_tag_reader) t138 a2) fun t140 =>
 Jr (Ye 104 l_8 ([t140.1] : List T_tag_Entry)) fun l142 =>
 Jr (gI (x10_2 + 1)) fun t111 =>
 next4 (x1_2, x7_3, x9_2, t111, t140.2.s_, t140.2.big_, t140.2.dirs_, t140.2.found_, t140.2.no_, t140.2.parts_, t140.2.seen_, l142)
noncomputable def Xk (a2 : (List Int)) (self : (T_tag_reader × Int × (List Int)) → Option ((List T_tag_Entry) × Int × T_tag_reader)) (next4 : ((Int × Int × Int × Int × (List UInt8) × Bool × Int × Nat × Int × (List T_tag_Span) × (List (Int × Bool)) × (List T_tag_Entry)) → Option ((List T_tag_Entry) × Int × T_tag_reader))) (x1_2 : Int) (x7_3 : Int) (x9_2 : Int) (x10_2 : Int) (m_21 : (List UInt8)) (m_22 : Bool) (m_23 : Int) (m_24 : Nat) (m_25 : Int) (l_7 : (List T_tag_Span)) (mp_5 : (List (Int × Bool))) (l_8 : (List T_tag_Entry)) : Option ((List T_tag_Entry) × Int × T_tag_reader) :=
 Ql (decide (x10_2 < x9_2)) (Ql (decide (m_25 = 0)) (Ql (decide (0 < x10_2)) (Jr (gI (x1_2 + 2)) fun t117 =>
 Jr (gI (12 * x10_2)) fun t119 =>
 Jr (gI (t117 + t119)) fun t120 =>
 Jr (Jk (⟨m_21, m_22, l_7, mp_5, m_23, m_24, m_25⟩ : T_tag_reader) t120 2) fun t121 =>
 Jr (gI (x10_2 - 1)) fun t124 =>
 Jr (Yp l_8 t124) fun t125 =>
 Ql (decide (t121 ≤ t125.Tag)) (Jr (Qr (⟨m_21, m_22, l_7, mp_5, m_23, m_24, m_25⟩ : T_tag_reader) 5) fun t131 =>
 W6 x7_3 t131.s_ t131.big_ t131.dirs_ t131.found_ t131.no_ t131.parts_ t131.seen_ l_8) (Zo a2 self x1_2 x7_3 x9_2 x10_2 m_21 m_22 m_23 m_24 m_25 l_7 mp_5 l_8 next4)) (Zo a2 self x1_2 x7_3 x9_2 x10_2 m_21 m_22 m_23 m_24 m_25 l_7 mp_5 l_8 next4)) (W6 x7_3 m_21 m_22 m_23 m_24 m_25 l_7 mp_5 l_8)) (W6 x7_3 m_21 m_22 m_23 m_24 m_25 l_7 mp_5 l_8)
noncomputable def Vs (a1 : Int) (a2 : (List Int)) (self : (T_tag_reader × Int × (List Int)) → Option ((List T_tag_Entry) × Int × T_tag_reader)) (t21 : (Int)) (t91 : (Int)) (m_6 : (List UInt8)) (m_7 : Bool) (m_8 : Int) (m_9 : Nat) (m_10 : Int) (l_2 : (List T_tag_Span)) (mp_2 : (List (Int × Bool))) : Option ((List T_tag_Entry) × Int × T_tag_reader) :=
 V8 (fun next4 s => Xk a2 self next4 s.1 s.2.1 s.2.2.1 s.2.2.2.1 s.2.2.2.2.1 s.2.2.2.2.2.1 s.2.2.2.2.2.2.1 s.2.2.2.2.2.2.2.1 s.2.2.2.2.2.2.2.2.1 s.2.2.2.2.2.2.2.2.2.1 s.2.2.2.2.2.2.2.2.2.2.1 s.2.2.2.2.2.2.2.2.2.2.2) (a1, t91, t21, 0, m_6, m_7, m_8, m_9, m_10, l_2, mp_2, ([] : List T_tag_Entry))
noncomputable def Q2 (a1 : Int) (a2 : (List Int)) (self : (T_tag_reader × Int × (List Int)) → Option ((List T_tag_Entry) × Int × T_tag_reader)) (t21 : (Int)) (m : (List UInt8)) (m_2 : Bool) (m_3 : Int) (m_4 : Nat) (m_5 : Int) (l : (List T_tag_Span)) (mp : (List (Int × Bool))) : Option ((List T_tag_Entry) × Int × T_tag_reader) :=
 Ql (decide (m_5 ≠ 0)) (some (([] : List T_tag_Entry), 0, (⟨m, m_2, l, mp, m_3, m_4, m_5⟩ : T_tag_reader))) (Jr (gI (a1 + 2)) fun t75 =>
 Jr (gI (12 * t21)) fun t77 =>
 Jr (gI (t75 + t77)) fun t78 =>
 Jr (gI (t78 + 4)) fun t79 =>
 Jr (Ye 16 l ([(⟨a1, t79⟩ : T_tag_Span)] : List T_tag_Span)) fun l82 =>
 Jr (gI (a1 + 2)) fun t87 =>
 Jr (gI (12 * t21)) fun t89 =>
 Jr (gI (t87 + t89)) fun t90 =>
 Jr (Jk (⟨m, m_2, l82, (mSet mp a1 true), m_3, m_4, m_5⟩ : T_tag_reader) t90 4) fun t91 =>
 Ql (decide (1 < (a2.length : Int))) (Ql (decide (t91 ≠ 0)) (Jr (Qr (⟨m, m_2, l82, (mSet mp a1 true), m_3, m_4, m_5⟩ : T_tag_reader) 1) fun t99 =>
 Vs a1 a2 self t21 t91 t99.s_ t99.big_ t99.dirs_ t99.found_ t99.no_ t99.parts_ t99.seen_) (Vs a1 a2 self t21 t91 m m_2 m_3 m_4 m_5 l82 (mSet mp a1 true))) (Vs a1 a2 self t21 t91 m m_2 m_3 m_4 m_5 l82 (mSet mp a1 true)))
noncomputable def Qa (self : (T_tag_reader × Int × (List Int)) → Option ((List T_tag_Entry) × Int × T_tag_reader)) (a0 : T_tag_reader) (a1 : Int) (a2 : (List Int)) : Option ((List T_tag_Entry) × Int × T_tag_reader) :=
 Jr (Vb a0 a1 2) fun t15 =>
 Ql (!t15) (Jr (Qr a0 2) fun t18 =>
 some (([] : List T_tag_Entry), 0, t18)) (Jr (Jk a0 a1 2) fun t21 =>
 Ql ((mGet a0.seen_ a1).getD false) (Jr (Qr a0 13) fun t30 =>
 Q2 a1 a2 self t21 t30.s_ t30.big_ t30.dirs_ t30.found_ t30.no_ t30.parts_ t30.seen_) (Ql (decide (20 < a0.dirs_)) (Jr (Qr a0 4) fun t46 =>
 Q2 a1 a2 self t21 t46.s_ t46.big_ t46.dirs_ t46.found_ t46.no_ t46.parts_ t46.seen_) (Ql (decide (5 < (a2.length : Int))) (Jr (Qr a0 4) fun t46_2 =>
 Q2 a1 a2 self t21 t46_2.s_ t46_2.big_ t46_2.dirs_ t46_2.found_ t46_2.no_ t46_2.parts_ t46_2.seen_) (Ql (decide (200 < t21)) (Jr (Qr a0 4) fun t46_3 =>
 Q2 a1 a2 self t21 t46_3.s_ t46_3.big_ t46_3.dirs_ t46_3.found_ t46_3.no_ t46_3.parts_ t46_3.seen_) (Jr (gI (12 * t21)) fun t51 =>
 Jr (gI (2 + t51)) fun t52 =>
 Jr (gI (t52 + 4)) fun t53 =>
 Jr (Vb a0 a1 t53) fun t54 =>
 Ql (!t54) (Jr (Qr a0 2) fun t57 =>
 Q2 a1 a2 self t21 t57.s_ t57.big_ t57.dirs_ t57.found_ t57.no_ t57.parts_ t57.seen_) (Q2 a1 a2 self t21 a0.s_ a0.big_ a0.dirs_ a0.found_ a0.no_ a0.parts_ a0.seen_))))))
noncomputable def Wh (a0 : T_tag_reader) (a1 : Int) (a2 : (List Int)) : Option ((List T_tag_Entry) × Int × T_tag_reader) :=
 V8 (fun (self : (T_tag_reader × Int × (List Int)) → Option ((List T_tag_Entry) × Int × T_tag_reader)) (s : T_tag_reader × Int × (List Int)) => Qa self s.1 s.2.1 s.2.2) (a0, a1, a2)
noncomputable def Yr (a0 : (List Int)) (next1 : ((Int) → Option (Int))) (x8_2 : Int) : Option (Int) :=
 Ql (decide (x8_2 < (a0.length : Int))) (Jr (Yp a0 x8_2) fun t10 =>
 Ql (decide (t10 ≠ 0)) (some t10) (Jr (gI (x8_2 + 1)) fun t16 =>
 next1 t16)) (some 0)
noncomputable def cmp_Or_int (a0 : (List Int)) : Option (Int) :=
 V8 (fun next1 s => Yr a0 next1 s) 0
noncomputable def Jax (a0 : Int) : Option (Bool) :=
 some (decide (a0 ≠ a0))
noncomputable def cmp_Compare_int (a0 : Int) (a1 : Int) : Option (Int) :=
 Jr (Jax a0) fun t8 =>
 Jr (Jax a1) fun t10 =>
 Ql t8 (Ql t10 (some 0) (some (-1))) (Ql t10 (some 1) (Ql (decide (a0 < a1)) (some (-1)) (Ql (decide (a1 < a0)) (some 1) (some 0))))
noncomputable def Xs (a0 : T_tag_Span) (a1 : T_tag_Span) : Option (Int) :=
 Jr (cmp_Compare_int a0.From a1.From) fun t9 =>
 Jr (cmp_Compare_int a0.To a1.To) fun t14 =>
 Jr (cmp_Or_int ([t9, t14] : List Int)) fun t16 =>
 some t16
noncomputable def Ze (a0 : (List T_tag_Span)) (next1 : ((Int) → Option (Bool))) (x3_2 : Int) : Option (Bool) :=
 Ql (decide (x3_2 < (a0.length : Int))) (Jr (Yp a0 x3_2) fun t12 =>
 Jr (gI (x3_2 - 1)) fun t17 =>
 Jr (Yp a0 t17) fun t18 =>
 Ql (decide (t12.From < t18.To)) (some true) (Jr (gI (x3_2 + 1)) fun t9 =>
 next1 t9)) (some false)
noncomputable def tag_overlap (a0 : (List T_tag_Span)) : Option (Bool) :=
 V8 (fun next1 s => Ze a0 next1 s) 1
noncomputable def tag_read_j3 (t22 : Int) (l_2 : (List (List T_tag_Entry))) (t72 : ((List T_tag_Span))) (m_7 : Int) : Option (T_tag_File × (List T_tag_Span) × Int) :=
 Ql (decide (m_7 ≠ 0)) (some ((⟨false, ([] : List (List T_tag_Entry))⟩ : T_tag_File), ([] : List T_tag_Span), m_7)) (some ((⟨(decide (t22 = 77)), l_2⟩ : T_tag_File), t72, 0))
noncomputable def tag_read_j2 (t22 : Int) (l_2 : (List (List T_tag_Entry))) (t72 : ((List T_tag_Span))) (m_6 : Int) : Option (T_tag_File × (List T_tag_Span) × Int) :=
 Ql (decide (m_6 = 0)) (Jr (Jaf (⟨(decide (t22 = 77)), l_2⟩ : T_tag_File)) fun t95 =>
 tag_read_j3 t22 l_2 t72 t95) (tag_read_j3 t22 l_2 t72 m_6)
noncomputable def Jag (t22 : Int) (m : (List UInt8)) (m_2 : Bool) (m_3 : Int) (m_4 : Nat) (m_5 : Int) (l : (List T_tag_Span)) (l_2 : (List (List T_tag_Entry))) (mp : (List (Int × Bool))) : Option (T_tag_File × (List T_tag_Span) × Int) :=
 Jr (gSortF l Xs) fun t72 =>
 Ql (decide (m_5 = 0)) (Jr (tag_overlap t72) fun t83 =>
 Ql t83 (tag_read_j2 t22 l_2 t72 6) (tag_read_j2 t22 l_2 t72 m_5)) (tag_read_j2 t22 l_2 t72 m_5)
noncomputable def Wl (t22 : Int) (next4 : ((Int × (List UInt8) × Bool × Int × Nat × Int × (List T_tag_Span) × (List (List T_tag_Entry)) × (List (Int × Bool))) → Option (T_tag_File × (List T_tag_Span) × Int))) (x9_2 : Int) (m_13 : (List UInt8)) (m_14 : Bool) (m_15 : Int) (m_16 : Nat) (m_17 : Int) (l_5 : (List T_tag_Span)) (l_6 : (List (List T_tag_Entry))) (mp_3 : (List (Int × Bool))) : Option (T_tag_File × (List T_tag_Span) × Int) :=
 Ql (decide (x9_2 ≠ 0)) (Ql (decide (m_17 = 0)) (Jr (gI (m_15 + 1)) fun t48 =>
 Jr (Wh (⟨m_13, m_14, l_5, mp_3, t48, m_16, m_17⟩ : T_tag_reader) x9_2 ([(l_6.length : Int)] : List Int)) fun t58 =>
 Jr (Ye 24 l_6 ([t58.1] : List (List T_tag_Entry))) fun l65 =>
 next4 (t58.2.1, t58.2.2.s_, t58.2.2.big_, t58.2.2.dirs_, t58.2.2.found_, t58.2.2.no_, t58.2.2.parts_, l65, t58.2.2.seen_)) (Jag t22 m_13 m_14 m_15 m_16 m_17 l_5 l_6 mp_3)) (Jag t22 m_13 m_14 m_15 m_16 m_17 l_5 l_6 mp_3)
noncomputable def tag_read (a0 : (List UInt8)) (a1 : Nat) : Option (T_tag_File × (List T_tag_Span) × Int) :=
 Ql (decide (65000 < (a0.length : Int))) (some ((⟨false, ([] : List (List T_tag_Entry))⟩ : T_tag_File), ([] : List T_tag_Span), 4)) (Jr (tag_begins a0) fun t17 =>
 Ql (!t17) (some ((⟨false, ([] : List (List T_tag_Entry))⟩ : T_tag_File), ([] : List T_tag_Span), 8)) (Jr (Ue a0 0) fun t22 =>
 Jr (Jk (⟨a0, (decide (t22 = 77)), ([] : (List T_tag_Span)), ([] : (List (Int × Bool))), 0, a1, 0⟩ : T_tag_reader) 4 4) fun t34 =>
 V8 (fun next4 s => Wl t22 next4 s.1 s.2.1 s.2.2.1 s.2.2.2.1 s.2.2.2.2.1 s.2.2.2.2.2.1 s.2.2.2.2.2.2.1 s.2.2.2.2.2.2.2.1 s.2.2.2.2.2.2.2.2) (t34, a0, (decide (t22 = 77)), 0, a1, 0, ([] : List T_tag_Span), ([] : List (List T_tag_Entry)), ([] : (List (Int × Bool))))))
noncomputable def tag_Read (a0 : (List UInt8)) : Option (T_tag_File × Int) :=
 Jr (tag_read a0 0) fun t9 =>
 some (t9.1, t9.2.2)
noncomputable def Up (a0 : (List UInt8)) : Option (T_tag_File × Int) :=
 Jr (Wp a0) fun t9 =>
 Ql (decide (t9.2 ≠ 0)) (some ((⟨false, ([] : List (List T_tag_Entry))⟩ : T_tag_File), t9.2)) (Jr (Z0 t9.1) fun t17 =>
 Ql (decide (t17 < 0)) (some ((⟨false, ([] : List (List T_tag_Entry))⟩ : T_tag_File), 7)) (Jr (Yp t9.1 t17) fun t23 =>
 Jr (Yu t23.Text 6 t23.Text.length) fun t26 =>
 Jr (tag_Read t26) fun t27 =>
 some (t27.1, t27.2)))
noncomputable def tag_Get (a0 : T_tag_File) (a1 : (List Int)) : Option (T_tag_Value × Int) :=
 Jr (Jaf a0) fun t => Ql (decide (t ≠ 0)) (some (noV, t)) (Jr (tag_dirOf a0.Dirs a1) fun r => match r with
  | none => some (noV, 7)
  | some ks => Jr (gI ((a1.length : Int) - 1)) fun q => Jr (Yp a1 q) fun t => Jr (W2 (getF ks a0.Dirs) t) fun p => Ql (!p.2) (some (noV, 7)) (Jr (Yp (getF ks a0.Dirs) p.1) fun e => open Classical in if fitV 8 e.Value then some (e.Value, 0) else none))
noncomputable def Jak (a0 : T_tag_Ratio) : Option (Int) :=
 Jr (Yk a0.Num 0 4294967295) fun t5 =>
 Ql t5 (some 2) (Jr (Yk a0.Den 1 4294967295) fun t9 =>
 Ql t9 (some 2) (some 0))
noncomputable def Wv (a0 : Int) (a1 : Int) : Option (Int × Int) :=
 Jr (gShr 64 a0 32) fun t17 =>
 Jr (gShr 64 a1 32) fun t21 =>
 Jr (gShr 64 (Qw ((Qw (Uw 64 a0 4294967295)) * (Qw (Uw 64 a1 4294967295)))) 32) fun t29 =>
 Jr (gShr 64 (Qw ((Qw (t17 * (Qw (Uw 64 a1 4294967295)))) + t29)) 32) fun t34 =>
 Jr (gShr 64 (Qw ((Qw (Uw 64 (Qw ((Qw (t17 * (Qw (Uw 64 a1 4294967295)))) + t29)) 4294967295)) + (Qw ((Qw (Uw 64 a0 4294967295)) * t21)))) 32) fun t46 =>
 some ((Qw ((Qw ((Qw (t17 * t21)) + t34)) + t46)), (Qw (a0 * a1)))
noncomputable def Q5 (a0 : T_tag_wide) (a1 : Int) : Option (T_tag_wide) :=
 Jr (Wv a0.low_ a1) fun t11 =>
 some (⟨(Qw (t11.1 + (Qw (a0.high_ * a1)))), t11.2⟩ : T_tag_wide)
noncomputable def tag_product_j1 (m : Int) (m_2 : Int) : Option (T_tag_wide) :=
 some (⟨m, m_2⟩ : T_tag_wide)
noncomputable def Wc (a0 : (List Int)) (next2 : ((Int × Int × Int) → Option (T_tag_wide))) (x9_2 : Int) (m_5 : Int) (m_6 : Int) : Option (T_tag_wide) :=
 Ql (decide (x9_2 < (a0.length : Int))) (Jr (Yp a0 x9_2) fun t11 =>
 Jr (Q5 (⟨m_5, m_6⟩ : T_tag_wide) t11) fun t15 =>
 Jr (gI (x9_2 + 1)) fun t16 =>
 next2 (t16, t15.high_, t15.low_)) (tag_product_j1 m_5 m_6)
noncomputable def Jz (a0 : (List Int)) : Option (T_tag_wide) :=
 V8 (fun next2 s => Wc a0 next2 s.1 s.2.1 s.2.2) (0, 0, 1)
noncomputable def J4 (a0 : T_tag_wide) (a1 : T_tag_wide) : Option (T_tag_wide) :=
 Jr (gAdd64 a0.low_ a1.low_ 0) fun t14 =>
 Jr (gAdd64 a0.high_ a1.high_ t14.2) fun t23 =>
 some (⟨t23.1, t14.1⟩ : T_tag_wide)
noncomputable def We (a0 : T_tag_wide) (a1 : T_tag_wide) : Option (Bool) :=
 Ql (decide (a1.high_ < a0.high_)) (some true) (Ql (decide (a0.high_ = a1.high_)) (some (decide (a1.low_ ≤ a0.low_))) (some false))
noncomputable def tag_Degrees_j2 (x4_2 : Int) : Option (Int × Int) :=
 Ql (decide (180000000 < x4_2)) (some (0, 2)) (some (x4_2, 0))
noncomputable def Wk (m_2 : (Nat → Int)) (t80 : (T_tag_wide)) (next3 : ((Int × Int) → Option (Int × Int))) (x4_4 : Int) (x13_2 : Int) : Option (Int × Int) :=
 Jr (Jz ([x13_2, (m_2 0), (m_2 1), (m_2 2)] : List Int)) fun t90 =>
 Jr (We t80 t90) fun t91 =>
 Ql t91 (Jr (gI (x4_4 + 1)) fun t95 =>
 next3 (t95, (Qw (x13_2 + 2)))) (tag_Degrees_j2 x4_4)
noncomputable def Uk (x4 : Int) (m : (Nat → Int)) (m_2 : (Nat → Int)) : Option (Int × Int) :=
 Jr (Jz ([(m 0), (m_2 1), (m_2 2)] : List Int)) fun t61 =>
 Jr (Jz ([(m_2 0), (m 1), (m_2 2)] : List Int)) fun t69 =>
 Jr (J4 t61 t69) fun t70 =>
 Jr (Jz ([(m_2 0), (m_2 1), (m 2)] : List Int)) fun t78 =>
 Jr (J4 t70 t78) fun t79 =>
 Jr (Q5 t79 2) fun t80 =>
 V8 (fun next3 s => Wk m_2 t80 next3 s.1 s.2) (x4, 1)
noncomputable def Zk (a0 : (List T_tag_Ratio)) (next4 : ((Int × Int × (Nat → Int) × (Nat → Int)) → Option (Int × Int))) (x4_6 : Int) (x19_2 : Int) (m_5 : (Nat → Int)) (m_6 : (Nat → Int)) : Option (Int × Int) :=
 Ql (decide (x19_2 < (a0.length : Int))) (Jr (Yp a0 x19_2) fun t22 =>
 Jr (Jak t22) fun t25 =>
 Ql (decide (t25 ≠ 0)) (some (0, t25)) (Jr (gI (t22.Num * 1000000)) fun t31 =>
 Jr (gIx 3 x19_2) fun k36 =>
 Jr (gI (t22.Den * ((ofL [1, 60, 3600]) k36))) fun t37 =>
 Jr (gQuo t31 t37) fun t41 =>
 Jr (gI (x4_6 + t41)) fun t42 =>
 Jr (gRem t31 t37) fun t47 =>
 Jr (gIx 3 x19_2) fun k51 =>
 Jr (gIx 3 x19_2) fun k52 =>
 Jr (gI (x19_2 + 1)) fun t53 =>
 next4 (t42, t53, (Zh m_5 k51 (Qw t47)), (Zh m_6 k52 (Qw t37))))) (Uk x4_6 m_5 m_6)
noncomputable def Ud (a0 : (List T_tag_Ratio)) : Option (Int × Int) :=
 Ql (decide ((a0.length : Int) ≠ 3)) (some (0, 1)) (V8 (fun next4 s => Zk a0 next4 s.1 s.2.1 s.2.2.1 s.2.2.2) (0, 0, (fun _ => 0), (fun _ => 0)))
noncomputable def where_whole  : Option (T_where_Box) :=
 some (⟨(-90000000), (-180000000), 90000000, 179999999⟩ : T_where_Box)
noncomputable def Vr (m : Int) (m_2 : Int) (m_3 : Int) (m_4 : Int) : Option (T_where_Box) :=
 some (⟨m, m_3, m_2, m_4⟩ : T_where_Box)
noncomputable def Zi (a0 : T_where_Box) (a1 : Int) (t26 : Int) (m : Int) (m_2 : Int) : Option (T_where_Box) :=
 Jr (gRem a1 2) fun t35 =>
 Ql (decide (t35 = 1)) (Vr m m_2 t26 a0.East) (Jr (gI (t26 - 1)) fun t40 =>
 Vr m m_2 a0.West t40)
noncomputable def V1 (a0 : T_where_Box) (a1 : Int) : Option (T_where_Box) :=
 Jr (gI (a0.North - a0.South)) fun t13 =>
 Jr (gI (t13 + 1)) fun t14 =>
 Jr (gQuo t14 2) fun t15 =>
 Jr (gI (a0.South + t15)) fun t16 =>
 Jr (gI (a0.East - a0.West)) fun t23 =>
 Jr (gI (t23 + 1)) fun t24 =>
 Jr (gQuo t24 2) fun t25 =>
 Jr (gI (a0.West + t25)) fun t26 =>
 Ql (decide (2 ≤ a1)) (Zi a0 a1 t26 t16 a0.North) (Jr (gI (t16 - 1)) fun t32 =>
 Zi a0 a1 t26 a0.South t32)
noncomputable def where_Cell_j1 (a1 : Int) (m : (Nat → Int)) : Option ((List UInt8) × Int) :=
 Jr (gCutA 24 m a1) fun t57 =>
 some ((Z8 t57), 0)
noncomputable def U0 (x21_2 : Int) (next2 : ((Int × (Nat → Int) × Int × Int × Int × Int) → Option ((List UInt8) × Int))) (m_12 : (Nat → Int)) (m_13 : Int) (m_14 : Int) (m_15 : Int) (m_16 : Int) : Option ((List UInt8) × Int) :=
 Jr (gI (x21_2 + 1)) fun t55 =>
 next2 (t55, m_12, m_13, m_14, m_15, m_16)
noncomputable def U5 (x24_2 : Int) (next4 : ((Int) → Option ((List UInt8) × Int))) : Option ((List UInt8) × Int) :=
 Jr (gI (x24_2 + 1)) fun t54 =>
 next4 t54
noncomputable def Va (a0 : T_api_Place) (x21_2 : Int) (m_7 : (Nat → Int)) (m_8 : Int) (m_9 : Int) (m_10 : Int) (m_11 : Int) (next2 : ((Int × (Nat → Int) × Int × Int × Int × Int) → Option ((List UInt8) × Int))) (next4 : ((Int) → Option ((List UInt8) × Int))) (x24_2 : Int) : Option ((List UInt8) × Int) :=
 Ql (decide (x24_2 < 4)) (Jr (V1 (⟨m_8, m_9, m_10, m_11⟩ : T_where_Box) x24_2) fun t29 =>
 Jr (Z4 a0.Lat t29.South t29.North) fun t36 =>
 Ql (!t36) (Jr (Z4 a0.Lon t29.West t29.East) fun t45 =>
 Ql (!t45) (Jr (gI (48 + x24_2)) fun t50 =>
 Jr (gIx 24 x21_2) fun k53 =>
 U0 x21_2 next2 (Zh m_7 k53 (wU8 t50)) t29.South t29.West t29.North t29.East) (U5 x24_2 next4)) (U5 x24_2 next4)) (U0 x21_2 next2 m_7 m_8 m_9 m_10 m_11)
noncomputable def Z6 (a0 : T_api_Place) (a1 : Int) (next2 : ((Int × (Nat → Int) × Int × Int × Int × Int) → Option ((List UInt8) × Int))) (x21_2 : Int) (m_7 : (Nat → Int)) (m_8 : Int) (m_9 : Int) (m_10 : Int) (m_11 : Int) : Option ((List UInt8) × Int) :=
 Ql (decide (x21_2 < a1)) (V8 (fun next4 s => Va a0 x21_2 m_7 m_8 m_9 m_10 m_11 next2 next4 s) 0) (where_Cell_j1 a1 m_7)
noncomputable def where_Cell (a0 : T_api_Place) (a1 : Int) : Option ((List UInt8) × Int) :=
 Jr (Yt a0) fun t13 =>
 Ql (decide (t13 ≠ 0)) (some ([], t13)) (Jr (Z4 a1 0 24) fun t18 =>
 Ql t18 (some ([], 2)) (Jr (where_whole) fun t19 =>
 V8 (fun next2 s => Z6 a0 a1 next2 s.1 s.2.1 s.2.2.1 s.2.2.2.1 s.2.2.2.2.1 s.2.2.2.2.2) (0, (fun _ => 0), t19.South, t19.West, t19.North, t19.East)))
noncomputable def Jao (a2 : T_api_Place) (a3 : Int) (l : (List Int)) : Option (Bool) :=
 Jr (Yp l 0) fun t158 =>
 Jr (Yp l 1) fun t161 =>
 Jr (where_Cell a2 a3) fun t167 =>
 Jr (where_Cell (⟨t158, t161⟩ : T_api_Place) a3) fun t173 =>
 Ql (Jat (⟨t158, t161⟩ : T_api_Place) a2) (Ql (decide (t167.2 = t173.2)) (some (decide (t167.1 = t173.1))) (some false)) (some false)
noncomputable def Vu (x109_2 : Int) (next3 : ((Int × (List Int)) → Option (Bool))) (x133 : Int) (x134 : Bool) (l_5 : (List Int)) : Option (Bool) :=
 Jr (gI (x109_2 + 1)) fun t156 =>
 next3 (t156, l_5)
noncomputable def Y1 (a2 : T_api_Place) (a3 : Int) (t102 : (T_tag_File × Int)) (next3 : ((Int × (List Int)) → Option (Bool))) (x109_2 : Int) (l_3 : (List Int)) : Option (Bool) :=
 Ql (decide (x109_2 < 2)) (Jr (gI (2 * x109_2)) fun t115 =>
 Jr (gI (2 + t115)) fun t116 =>
 Jr (tag_Get t102.1 ([0, t116] : List Int)) fun t118 =>
 Jr (gI (2 * x109_2)) fun t124 =>
 Jr (gI (1 + t124)) fun t125 =>
 Jr (tag_Get t102.1 ([0, t125] : List Int)) fun t127 =>
 Ql (decide (t118.2 ≠ 0)) (some false) (Ql (decide (t127.2 ≠ 0)) (some false) (Jr (Ud t118.1.Ratios) fun t139 =>
 Ql (decide (t139.2 ≠ 0)) (some false) (Jr (Yp l_3 x109_2) fun t147 =>
 Jr (gSet l_3 x109_2 t139.1) fun l2 =>
 Ql (decide (t127.1.Text = [45])) (Jr (gI (-t139.1)) fun t154 =>
 Jr (Yp l2 x109_2) fun t155 =>
 Jr (gSet l2 x109_2 t154) fun l2_2 =>
 Vu x109_2 next3 t127.2 (decide (t127.2 ≠ 0)) l2_2) (Vu x109_2 next3 t127.2 (decide (t127.2 ≠ 0)) l2))))) (Jao a2 a3 l_3)
noncomputable def Jah (a0 : (List UInt8)) (a2 : T_api_Place) (a3 : Int) (m : Bool) (m_2 : (List (List T_tag_Entry))) : Option (Bool) :=
 Jr (Wd a0 (⟨m, m_2⟩ : T_tag_File)) fun t95 =>
 Ql (decide (t95.2 ≠ 0)) (some true) (Jr (Up t95.1) fun t102 =>
 Ql (decide (t102.2 ≠ 0)) (some false) (V8 (fun next3 s => Y1 a2 a3 t102 next3 s.1 s.2) (0, ([a2.Lat, a2.Lon] : List Int))))
noncomputable def X8 (x48_2 : Int) (m_5 : Bool) (m_6 : (List (List T_tag_Entry))) (next5 : ((Int × Bool × (List (List T_tag_Entry))) → Option (Bool))) (t58 : ((List T_tag_Ratio) × Int)) (x14 : (List UInt8)) : Option (Bool) :=
 Jr (gI (2 * x48_2)) fun t68 =>
 Jr (gI (2 + t68)) fun t69 =>
 Jr (tag_Put (⟨m_5, m_6⟩ : T_tag_File) ([0, t69] : List Int) (⟨5, [], ([] : (List Int)), t58.1, ([] : (List T_tag_Entry))⟩ : T_tag_Value)) fun t73 =>
 Ql (decide (t73.2 ≠ 0)) (some true) (Jr (gI (2 * x48_2)) fun t81 =>
 Jr (gI (1 + t81)) fun t82 =>
 Jr (tag_Put t73.1 ([0, t82] : List Int) (⟨2, x14, ([] : (List Int)), ([] : (List T_tag_Ratio)), ([] : (List T_tag_Entry))⟩ : T_tag_Value)) fun t86 =>
 Ql (decide (t86.2 ≠ 0)) (some true) (Jr (gI (x48_2 + 1)) fun t91 =>
 next5 (t91, t86.1.Big, t86.1.Dirs)))
noncomputable def X6 (a0 : (List UInt8)) (a2 : T_api_Place) (a3 : Int) (next5 : ((Int × Bool × (List (List T_tag_Entry))) → Option (Bool))) (x48_2 : Int) (m_5 : Bool) (m_6 : (List (List T_tag_Entry))) : Option (Bool) :=
 Ql (decide (x48_2 < 2)) (Jr (Yp ([a2.Lat, a2.Lon] : List Int) x48_2) fun t51 =>
 Jr (gI (-t51)) fun t56 =>
 Jr (tag_Ratios (max t51 t56)) fun t58 =>
 Ql (decide (t58.2 ≠ 0)) (some false) (Ql (decide (t51 < 0)) (X8 x48_2 m_5 m_6 next5 t58 [45]) (X8 x48_2 m_5 m_6 next5 t58 [43]))) (Jah a0 a2 a3 m_5 m_6)
noncomputable def Jai (a0 : (List UInt8)) (a1 : T_tag_File) (a2 : T_api_Place) (a3 : Int) : Option (Bool) :=
 Jr (Jap) fun t30 =>
 Ql (!t30) (some false) (Jr (Yt a2) fun t33 =>
 Ql (decide (t33 ≠ 0)) (some true) (Ql (decide ((a1.Dirs.length : Int) = 0)) (some true) (V8 (fun next5 s => X6 a0 a2 a3 next5 s.1 s.2.1 s.2.2) (0, a1.Big, a1.Dirs))))
end Go.M

/-
 DERIVED: THE SHELF's CONTRACTS AT THIS DUMP, IN PLAIN WORDS (tools/lay-plain.mjs out of 'YtdcppgplkfkjiaaGreatDoorSrf.lean', which tools/lay-shelf.mjs wrote): THE SAME DECLARATIONS UNDER THE SAME NAMES: 'import', 'namespace', 'open', 'def', 'theorem' AND NOTHING ELSE: no command of the shelf's: FOR A HAND-IN. Each laying: the table of numbers ('.._ren') and one theorem, a field a fact of the dump's own or the kernel's comparison; each contract: ONE APPLICATION.
-/
namespace Go.Proofs
open Go.Shelf
def Tryz.sortFP_ren : Go.Shelf.Ren := ⟨fun | 6 => 82 | 15 => 101 | 14 => 100 | 28 => 118 | 29 => 119 | 20 => 110 | 21 => 111 | 22 => 112 | 23 => 113 | 24 => 114 | 25 => 115 | 26 => 116 | 27 => 117 | 46 => 128 | 47 => 129 | 48 => 130 | 49 => 131 | 50 => 132 | 57 => 137 | n => n, fun | 22 => 115 | 24 => 140 | 25 => 141 | 3 => 3 | 39 => 101 | 0 => 0 | 53 => 165 | 55 => 76 | 4 => 4 | 46 => 172 | 45 => 171 | 50 => 63 | 5 => 5 | 9 => 9 | 66 => 186 | 70 => 190 | 76 => 195 | 77 => 107 | n => n, fun | n => n⟩
theorem Tryz.sortFP : Go.Proofs.SlLaysF0.n6 Tryz.prog Tryz.sortFP_ren := {
 mixed := by kernel_rfl
 f6 := ⟨Tryz.f82.name, by decide, Tryz.func82.trans (congrArg some (by kernel_rfl))⟩
 f14 := ⟨Tryz.f100.name, by decide, Tryz.func100.trans (congrArg some (by kernel_rfl))⟩
 f15 := Tryz.func101.trans (congrArg some (by kernel_rfl))
 f20 := ⟨Tryz.f110.name, by decide, Tryz.func110.trans (congrArg some (by kernel_rfl))⟩
 f21 := ⟨Tryz.f111.name, by decide, Tryz.func111.trans (congrArg some (by kernel_rfl))⟩
 f22 := ⟨Tryz.f112.name, by decide, Tryz.func112.trans (congrArg some (by kernel_rfl))⟩
 f23 := ⟨Tryz.f113.name, by decide, Tryz.func113.trans (congrArg some (by kernel_rfl))⟩
 f24 := ⟨Tryz.f114.name, by decide, Tryz.func114.trans (congrArg some (by kernel_rfl))⟩
 f25 := ⟨Tryz.f115.name, by decide, Tryz.func115.trans (congrArg some (by kernel_rfl))⟩
 f26 := ⟨Tryz.f116.name, by decide, Tryz.func116.trans (congrArg some (by kernel_rfl))⟩
 f27 := ⟨Tryz.f117.name, by decide, Tryz.func117.trans (congrArg some (by kernel_rfl))⟩
 f28 := Tryz.func118.trans (congrArg some (by kernel_rfl))
 f29 := Tryz.func119.trans (congrArg some (by kernel_rfl))
 f46 := ⟨Tryz.f128.name, by decide, Tryz.func128.trans (congrArg some (by kernel_rfl))⟩
 f47 := Tryz.func129.trans (congrArg some (by kernel_rfl))
 f48 := Tryz.func130.trans (congrArg some (by kernel_rfl))
 f49 := ⟨Tryz.f131.name, by decide, Tryz.func131.trans (congrArg some (by kernel_rfl))⟩
 f50 := ⟨Tryz.f132.name, by decide, Tryz.func132.trans (congrArg some (by kernel_rfl))⟩
 f57 := ⟨Tryz.f137.name, by decide, Tryz.func137.trans (congrArg some (by kernel_rfl))⟩
 t0 := Tryz.underlying0
 a0 := Tryz.isAgg0
 z0 := Tryz.sizeOf0
 v0 := Tryz.zeroValue0
 t3 := Tryz.underlying3
 a3 := Tryz.isAgg3
 z3 := Tryz.sizeOf3
 v3 := Tryz.zeroValue3
 t4 := Tryz.underlying4
 a4 := Tryz.isAgg4
 z4 := Tryz.sizeOf4
 v4 := Tryz.zeroValue4
 t5 := Tryz.underlying5
 a5 := Tryz.isAgg5
 z5 := Tryz.sizeOf5
 v5 := Tryz.zeroValue5
 t9 := Tryz.underlying9
 a9 := Tryz.isAgg9
 z9 := Tryz.sizeOf9
 v9 := Tryz.zeroValue9
 t22 := Tryz.underlying115
 a22 := Tryz.isAgg115
 z22 := Tryz.sizeOf115
 v22 := Tryz.zeroValue115
 t25 := Tryz.underlying141
 a25 := Tryz.isAgg141
 z25 := Tryz.sizeOf141
 v25 := Tryz.zeroValue141
 t39 := Tryz.underlying101
 a39 := Tryz.isAgg101
 z39 := Tryz.sizeOf101
 v39 := Tryz.zeroValue101
 t45 := Tryz.underlying171
 a45 := Tryz.isAgg171
 z45 := Tryz.sizeOf171
 v45 := Tryz.zeroValue171
 t46 := Tryz.underlying172
 a46 := Tryz.isAgg172
 z46 := Tryz.sizeOf172
 v46 := Tryz.zeroValue172
 t50 := Tryz.underlying63
 a50 := Tryz.isAgg63
 z50 := Tryz.sizeOf63
 v50 := Tryz.zeroValue63
 t53 := Tryz.underlying165
 a53 := Tryz.isAgg165
 z53 := Tryz.sizeOf165
 v53 := Tryz.zeroValue165
 t55 := Tryz.underlying76
 a55 := Tryz.isAgg76
 z55 := Tryz.sizeOf76
 v55 := Tryz.zeroValue76
 t66 := Tryz.underlying186
 a66 := Tryz.isAgg186
 z66 := Tryz.sizeOf186
 v66 := Tryz.zeroValue186
 t70 := Tryz.underlying190
 a70 := Tryz.isAgg190
 z70 := Tryz.sizeOf190
 v70 := Tryz.zeroValue190
 t76 := Tryz.underlying195
 a76 := Tryz.isAgg195
 z76 := Tryz.sizeOf195
 v76 := Tryz.zeroValue195
 t77 := Tryz.underlying107
 a77 := Tryz.isAgg107
 z77 := Tryz.sizeOf107
 v77 := Tryz.zeroValue107 }
def Tryz.cmpI103_ren : Go.Shelf.Ren := ⟨fun | 5 => 103 | 7 => 120 | n => n, fun | 22 => 3 | 3 => 3 | 4 => 4 | n => n, fun | n => n⟩
theorem Tryz.cmpI103 : Go.Proofs.SlLaysC2.n5 Tryz.prog Tryz.cmpI103_ren := {
 mixed := by kernel_rfl
 f5 := ⟨Tryz.f103.name, by decide, Tryz.func103.trans (congrArg some (by kernel_rfl))⟩
 f7 := ⟨Tryz.f120.name, by decide, Tryz.func120.trans (congrArg some (by kernel_rfl))⟩
 t3 := Tryz.underlying3
 a3 := Tryz.isAgg3
 z3 := Tryz.sizeOf3
 v3 := Tryz.zeroValue3
 t4 := Tryz.underlying4
 a4 := Tryz.isAgg4
 z4 := Tryz.sizeOf4
 v4 := Tryz.zeroValue4
 t22 := Tryz.underlying3
 a22 := Tryz.isAgg3
 z22 := Tryz.sizeOf3
 v22 := Tryz.zeroValue3 }
end Go.Proofs

/- A small rule library of our own over the kit's walk calculus: it proves that Go code meets a contract, one operation at a time, over a functional frame and a list of owned memory chunks. Conditions: none; every rule is proved here from the kit's own laws. -/
namespace Go.Vc
open Go
abbrev Xb := Nat → Value
def upd (e : Xb) (d : Nat) (v : Value) : Xb := fun t => bif Nat.beq t d then v else e t
def ev (e : Xb) : Operand → Value
 | .tmp t => e t
 | .const v => v
 | .global g => .pointer (some ⟨g, 0, none⟩)
 | .func f => .func (.func f) #[] #[]
structure Sim (n : Nat) (a : Act) (e : Xb) : Prop where
 defers : a.defers = []
 size : a.tmps.size = n
 val : ∀ t, a.tmps.getD t undef = e t
theorem Sim.ev {n : Nat} {a : Act} {e : Xb} (h : Sim n a e) : a.eval = ev e := by
 funext o
 cases o <;> simp [Act.eval, Vc.ev, h.val]
theorem beq_eq (a b : Nat) : Nat.beq a b = decide (a = b) := by
 rw [Bool.eq_iff_iff]; simp [Nat.beq_eq]
theorem upd_same (e : Xb) (d : Nat) (v : Value) : upd e d v d = v := by simp [upd]
theorem upd_ne (e : Xb) (d t : Nat) (v : Value) (h : t ≠ d) : upd e d v t = e t := by simp [upd, beq_eq, h]
theorem Sim.put {n : Nat} {a : Act} {e : Xb} (h : Sim n a e) {d : Nat} (hd : Nat.blt d n = true) (v : Value) : Sim n (a.put (some d) v) (upd e d v) := by
 have hd' : d < n := by simpa using hd
 refine ⟨h.defers, by simp [Act.put, h.size], fun t => ?_⟩
 have ht := h.val t
 by_cases htd : t = d
 ·subst htd
  rw [upd_same]
  simp [Act.put, Array.getD_eq_getD_getElem?, h.size, hd']
 ·rw [upd_ne _ _ _ _ htd, ← ht]
  simp only [Act.put, Array.getD_eq_getD_getElem?]
  rw [Array.getElem?_setIfInBounds]
  have : ¬ d = t := fun e => htd e.symm
  simp [this]
def lget : List Value → Xb
 | [], _ => undef
 | v :: _, 0 => v
 | _ :: l, t + 1 => lget l t
theorem lget_eq (l : List Value) (t : Nat) : lget l t = l.getD t undef := by
 induction l generalizing t with
 | nil => simp [lget]
 | cons v l ih => cases t <;> simp [lget, ih]
def Grow (w w' : World) : Prop := Go.RowKit.Below w.heap.size w w'
theorem Grow.refl (w : World) : Grow w w := Go.RowKit.Below.refl _ _
theorem Grow.trans {a b c : World} (h : Grow a b) (k : Grow b c) : Grow a c := Go.RowKit.Below.trans h (Go.RowKit.Below.mono k h.size)
structure Chunk where
 P : (Nat → Prop) → World → Prop
 loc : ∀ S w w', (∀ b, S b → w'.heap[b]? = w.heap[b]?) → P S w → P S w'
structure Cx where
 w0 : World
 S0 : Nat → Prop
def Cx.own (cx : Cx) (b : Nat) : Prop := cx.w0.heap.size ≤ b ∨ cx.S0 b
structure Fr (cx : Cx) (w : World) : Prop where
 os : w.os = cx.w0.os
 tape : w.tape = cx.w0.tape
 output : w.output = cx.w0.output
 size : cx.w0.heap.size ≤ w.heap.size
 block : ∀ b, ¬ cx.own b → w.heap[b]? = cx.w0.heap[b]?
structure Sat (cx : Cx) (w : World) (L : List Chunk) : Prop where
 out : ∃ fp : Nat → Nat → Prop, (∀ (i : Nat) (c : Chunk), L[i]? = some c → c.P (fp i) w) ∧ (∀ i b, fp i b → i < L.length ∧ b < w.heap.size ∧ cx.own b) ∧ (∀ i j b, fp i b → fp j b → i = j)
theorem Fr.refl (w : World) (S0 : Nat → Prop) : Fr ⟨w, S0⟩ w := ⟨rfl, rfl, rfl, Nat.le_refl _, fun _ _ => rfl⟩
theorem Fr.grow {cx : Cx} {w w' : World} (h : Fr cx w) (g : Grow w w') : Fr cx w' := by
 refine ⟨g.os.trans h.os, g.tape.trans h.tape, g.output.trans h.output, Nat.le_trans h.size g.size, fun b hb => ?_⟩
 have hlt : b < w.heap.size := by
  have : ¬ cx.w0.heap.size ≤ b := fun hh => hb (.inl hh)
  have := h.size
  omega
 rw [g.block b hlt, h.block b hb]
theorem Sat.grow {cx : Cx} {w w' : World} {L : List Chunk} (h : Sat cx w L) (g : Grow w w') : Sat cx w' L := by
 obtain ⟨fp, h1, h2, h3⟩ := h.out
 refine ⟨fp, fun i c hc => c.loc _ _ _ (fun b hb => g.block b (h2 i b hb).2.1) (h1 i c hc), fun i b hb => ?_, h3⟩
 obtain ⟨a1, a2, a3⟩ := h2 i b hb
 exact ⟨a1, Nat.lt_of_lt_of_le a2 g.size, a3⟩
theorem Sat.nil (cx : Cx) (w : World) : Sat cx w [] := ⟨fun _ _ => False, by simp, fun _ _ h => h.elim, fun _ _ _ h => h.elim⟩
theorem Sat.snoc {cx : Cx} {w w' : World} {L : List Chunk} {c : Chunk} {S : Nat → Prop} (h : Sat cx w L) (hf : Fr cx w) (g : Grow w w') (hc : c.P S w')
  (hS : ∀ b, S b → w.heap.size ≤ b ∧ b < w'.heap.size) : Sat cx w' (L ++ [c]) := by
 obtain ⟨fp, k1, h2, h3⟩ := h.out
 have h1 : ∀ (i : Nat) (c : Chunk), L[i]? = some c → c.P (fp i) w' := fun i c hc => c.loc _ _ _ (fun b hb => g.block b (h2 i b hb).2.1) (k1 i c hc)
 refine ⟨fun i b => (i < L.length ∧ fp i b) ∨ (i = L.length ∧ S b), ?_, ?_, ?_⟩
 ·intro i d hd
  by_cases hi : i < L.length
  ·have : (fun b => (i < L.length ∧ fp i b) ∨ (i = L.length ∧ S b)) = fp i := by
    funext b; apply propext; constructor
    ·rintro (⟨_, h⟩ | ⟨h, _⟩)
     ·exact h
     ·omega
    ·exact fun h => .inl ⟨hi, h⟩
   show d.P (fun b => (i < L.length ∧ fp i b) ∨ (i = L.length ∧ S b)) w'
   rw [this]
   exact h1 i d (by simpa [List.getElem?_append_left hi] using hd)
  ·have hle : L.length ≤ i := by omega
   rw [List.getElem?_append_right hle] at hd
   have hi0 : i - L.length = 0 := by
    by_cases h0 : i - L.length = 0
    ·exact h0
    ·obtain ⟨k, hk⟩ : ∃ k, i - L.length = k + 1 := ⟨i - L.length - 1, by omega⟩
     rw [hk] at hd; simp at hd
   have hil : i = L.length := by omega
   rw [hi0] at hd
   simp at hd
   subst hd
   have : (fun b => (i < L.length ∧ fp i b) ∨ (i = L.length ∧ S b)) = S := by
    funext b; apply propext; constructor
    ·rintro (⟨h, _⟩ | ⟨_, h⟩)
     ·omega
     ·exact h
    ·exact fun h => .inr ⟨hil, h⟩
   show c.P (fun b => (i < L.length ∧ fp i b) ∨ (i = L.length ∧ S b)) w'
   rw [this]
   exact hc
 ·rintro i b (⟨hi, hb⟩ | ⟨hi, hb⟩)
  ·obtain ⟨a1, a2, a3⟩ := h2 i b hb
   exact ⟨by simp; omega, Nat.lt_of_lt_of_le a2 g.size, a3⟩
  ·obtain ⟨a1, a2⟩ := hS b hb
   exact ⟨by simp; omega, a2, .inl (Nat.le_trans hf.size a1)⟩
 ·rintro i j b (⟨hi, hb⟩ | ⟨hi, hb⟩) (⟨hj, hb'⟩ | ⟨hj, hb'⟩)
  ·exact h3 i j b hb hb'
  ·have := (h2 i b hb).2.1; have := (hS b hb').1; omega
  ·have := (h2 j b hb').2.1; have := (hS b hb).1; omega
  ·omega
theorem Sat.set {cx : Cx} {w w' : World} {L : List Chunk} {i : Nat} {c c' : Chunk} (h : Sat cx w L) (hf : Fr cx w) (hi : L[i]? = some c)
  (hs : w.heap.size ≤ w'.heap.size)
  (hc : ∀ S : Nat → Prop, c.P S w → (∀ b, S b → b < w.heap.size ∧ cx.own b) → ∃ S' : Nat → Prop, c'.P S' w' ∧ (∀ b, S' b → b < w'.heap.size ∧ (S b ∨ w.heap.size ≤ b)) ∧ ∀ b, b < w.heap.size → ¬ S b → w'.heap[b]? = w.heap[b]?) :
  Sat cx w' (L.set i c') := by
 obtain ⟨fp, h1, h2, h3⟩ := h.out
 obtain ⟨S', k1, k2, k3⟩ := hc (fp i) (h1 i c hi) (fun b hb => (h2 i b hb).2)
 have hil : i < L.length := by
  rcases Nat.lt_or_ge i L.length with h | h
  ·exact h
  ·simp [List.getElem?_eq_none h] at hi
 refine ⟨fun j b => if j = i then S' b else fp j b, ?_, ?_, ?_⟩
 ·intro j d hd
  by_cases hji : j = i
  ·subst hji
   simp [List.getElem?_set_self hil] at hd
   subst hd
   simpa using k1
  ·rw [List.getElem?_set_ne (fun e => hji e.symm)] at hd
   simp only [hji, if_false]
   exact d.loc _ _ _ (fun b hb => k3 b (h2 j b hb).2.1 (fun hib => hji (h3 j i b hb hib))) (h1 j d hd)
 ·intro j b hb
  by_cases hji : j = i
  ·simp only [hji, if_true] at hb
   refine ⟨by simp [hji, hil], (k2 b hb).1, ?_⟩
   rcases (k2 b hb).2 with h | h
   ·exact (h2 i b h).2.2
   ·exact .inl (Nat.le_trans hf.size h)
  ·simp only [hji, if_false] at hb
   obtain ⟨a1, a2, a3⟩ := h2 j b hb
   exact ⟨by simpa using a1, by omega, a3⟩
 ·intro j k b hj hk
  by_cases hji : j = i <;> by_cases hki : k = i <;> simp only [hji, hki, if_true, if_false] at hj hk
  ·omega
  ·obtain ⟨_, a2, _⟩ := h2 k b hk
   rcases (k2 b hj).2 with h | h
   ·exact absurd (h3 k i b hk h) hki
   ·omega
  ·obtain ⟨_, a2, _⟩ := h2 j b hj
   rcases (k2 b hk).2 with h | h
   ·exact absurd (h3 j i b hj h) hji
   ·omega
  ·exact h3 j k b hj hk
theorem Sat.select {cx : Cx} {w : World} {L L' : List Chunk} (h : Sat cx w L) (sel : List Nat) (hnd : sel.Nodup) (hs : sel.map (fun i => L[i]?) = L'.map some) : Sat cx w L' := by
 obtain ⟨fp, h1, h2, h3⟩ := h.out
 have hlen : sel.length = L'.length := by simpa using congrArg List.length hs
 refine ⟨fun k b => ∃ i, sel[k]? = some i ∧ fp i b, ?_, ?_, ?_⟩
 ·intro k c hc
  have hk : (sel.map (fun i => L[i]?))[k]? = (L'.map some)[k]? := by rw [hs]
  simp only [List.getElem?_map, hc, Option.map_some] at hk
  cases hsk : sel[k]? with
  | none => simp [hsk] at hk
  | some i =>
   simp [hsk] at hk
   have : (fun b => ∃ j, some i = some j ∧ fp j b) = fp i := by
    funext b; apply propext; constructor
    ·rintro ⟨j, hj, hb⟩; cases hj; exact hb
    ·exact fun hb => ⟨i, rfl, hb⟩
   show c.P (fun b => ∃ j, sel[k]? = some j ∧ fp j b) w
   rw [hsk, this]
   exact h1 i c hk
 ·rintro k b ⟨i, hi, hb⟩
  have hkl : k < sel.length := by
   rcases Nat.lt_or_ge k sel.length with h | h
   ·exact h
   ·simp [List.getElem?_eq_none h] at hi
  exact ⟨by omega, (h2 i b hb).2⟩
 ·rintro k k' b ⟨i, hi, hb⟩ ⟨i', hi', hb'⟩
  have := h3 i i' b hb hb'
  subst this
  have hkl : k < sel.length := by
   rcases Nat.lt_or_ge k sel.length with h | h
   ·exact h
   ·simp [List.getElem?_eq_none h] at hi
  have hkl' : k' < sel.length := by
   rcases Nat.lt_or_ge k' sel.length with h | h
   ·exact h
   ·simp [List.getElem?_eq_none h] at hi'
  have hp := List.pairwise_iff_getElem.1 hnd
  rw [List.getElem?_eq_getElem hkl] at hi
  rw [List.getElem?_eq_getElem hkl'] at hi'
  rcases Nat.lt_trichotomy k k' with h | h | h
  ·exact absurd ((Option.some.inj hi).trans (Option.some.inj hi').symm) (hp k k' hkl hkl' h)
  ·exact h
  ·exact absurd ((Option.some.inj hi').trans (Option.some.inj hi).symm) (hp k' k hkl' hkl h)
structure At (cx : Cx) (K : Xb → World → Prop) (e : Xb) (L : List Chunk) : Prop where
 out : ∀ w, Fr cx w → Sat cx w L → K e w
abbrev U4 := Exit → Xb → World → Prop
def lift (n : Nat) (Q : U4) : Exit → Act → World → Prop := fun x a w => ∃ e, Sim n a e ∧ Q x e w
structure WC (P : Program) (n : Nat) (c : Code) (Q : U4) (e : Xb) (w : World) : Prop where
 out : ∀ a, Sim n a e → c.wp P (lift n Q) a w
structure WL (P : Program) (n : Nat) (ops : Array Oper) (Q : U4) (l : List Oper) (e : Xb) (w : World) : Prop where
 out : ∀ a, Sim n a e → wpList P ops (lift n Q) l a w
def ThenQ (K : Xb → World → Prop) (Q : U4) : U4
 | .normal, e, w => K e w
 | .exit i, e, w => Q (.exit i) e w
 | .goto l, e, w => Q (.goto l) e w
 | .ret, e, w => Q .ret e w
 | .panic c, e, w => Q (.panic c) e w
 | .outgrown, e, w => Q .outgrown e w
def BlockQ (id : Nat) (Q : U4) : U4
 | .normal, e, w => Q .normal e w
 | .exit i, e, w => bif Nat.beq i id then Q .normal e w else Q (.exit i) e w
 | .goto l, e, w => Q (.goto l) e w
 | .ret, e, w => Q .ret e w
 | .panic c, e, w => Q (.panic c) e w
 | .outgrown, e, w => Q .outgrown e w
section rules
variable {P : Program} {n : Nat} {cx : Cx} {Q : U4} {e : Xb} {L : List Chunk}
theorem Jc {x y : Code} (h : At cx (WC P n x (ThenQ (WC P n y Q) Q)) e L) : At cx (WC P n (.seq x y) Q) e L :=
 ⟨fun w hF hS => ⟨fun a ha => wp_seq (Code.wp_mono (fun x' a' w' hq => by
  obtain ⟨e', hs, hq⟩ := hq
  cases x' <;> first | exact ⟨e', hs, hq⟩ | exact WC.out hq a' hs) ((h.out w hF hS).out a ha))⟩⟩
theorem Ji (h : At cx (Q .normal) e L) : At cx (WC P n .skip Q) e L :=
 ⟨fun w hF hS => ⟨fun _ ha => wp_skip ⟨e, ha, h.out w hF hS⟩⟩⟩
theorem Jh (h : At cx (Q .ret) e L) : At cx (WC P n .ret Q) e L :=
 ⟨fun w hF hS => ⟨fun _ ha => wp_ret ⟨e, ha, h.out w hF hS⟩⟩⟩
theorem Xx {id : Nat} (h : At cx (Q (.exit id)) e L) : At cx (WC P n (.exit id) Q) e L :=
 ⟨fun w hF hS => ⟨fun _ ha => wp_exit ⟨e, ha, h.out w hF hS⟩⟩⟩
theorem Jx {id : Nat} {c : Code} (h : At cx (WC P n c (BlockQ id Q)) e L) : At cx (WC P n (.block id c) Q) e L :=
 ⟨fun w hF hS => ⟨fun a ha => wp_block (Code.wp_mono (fun x' a' w' hq => by
  obtain ⟨e', hs, hq⟩ := hq
  cases x' with
  | exit i =>
   simp only [Exit.inBlock, lift]
   by_cases hi : i = id
   ·simp only [hi, if_true]
    have hb : Nat.beq id id = true := by simp
    have hq' : (bif Nat.beq i id then Q .normal e' w' else Q (.exit i) e' w') := hq
    rw [hi, hb] at hq'
    exact ⟨e', hs, hq'⟩
   ·have hb : Nat.beq i id = false := by simp [beq_eq, hi]
    have hq' : (bif Nat.beq i id then Q .normal e' w' else Q (.exit i) e' w') := hq
    rw [hb] at hq'
    simp only [hi, if_false]
    exact ⟨e', hs, hq'⟩
  | normal => exact ⟨e', hs, hq⟩
  | goto l => exact ⟨e', hs, hq⟩
  | ret => exact ⟨e', hs, hq⟩
  | panic c => exact ⟨e', hs, hq⟩
  | outgrown => exact ⟨e', hs, hq⟩) ((h.out w hF hS).out a ha))⟩⟩
theorem c_if {c : Operand} {x y : Code} {b : Bool} (hc : ev e c = .bool b) (ht : b = true → At cx (WC P n x Q) e L) (hf : b = false → At cx (WC P n y Q) e L) :
  At cx (WC P n (.cond c x y) Q) e L :=
 ⟨fun w hF hS => ⟨fun a ha => wp_cond_split (by rw [ha.ev]; exact hc) (fun hb => ((ht hb).out w hF hS).out a ha) (fun hb => ((hf hb).out w hF hS).out a ha)⟩⟩
theorem Ws {c : Operand} {x y : Code} (hc : ev e c = .bool true) (ht : At cx (WC P n x Q) e L) : At cx (WC P n (.cond c x y) Q) e L :=
 c_if hc (fun _ => ht) (fun h => by cases h)
theorem U7 {c : Operand} {x y : Code} (hc : ev e c = .bool false) (hf : At cx (WC P n y Q) e L) : At cx (WC P n (.cond c x y) Q) e L :=
 c_if hc (fun h => by cases h) (fun _ => hf)
theorem Ja {id : Nat} {l : List Oper} (h : At cx (WL P n l.toArray Q l) e L) : At cx (WC P n (.region id l.toArray false) Q) e L :=
 ⟨fun w hF hS => ⟨fun a ha => wp_region_lit ((h.out w hF hS).out a ha)⟩⟩
theorem Jd {ops : Array Oper} (h : At cx (Q .normal) e L) : At cx (WL P n ops Q []) e L :=
 ⟨fun w hF hS => ⟨fun _ ha => wpList_nil ⟨e, ha, h.out w hF hS⟩⟩⟩
end rules
def BodyQ (P : Program) (fn : Func) (R : Value → World → Prop) : U4
 | .normal, e, w | .ret, e, w => ∀ tmps : Array Value, (∀ t, tmps.getD t undef = e t) → ∃ v, (results fn tmps).run P w = .ok v w ∧ R v w
 | _, _, _ => False
def Does (P : Program) (f : FuncId) (args : Array Value) (w : World) (R : Value → World → Prop) : Prop :=
 Calls P f args w fun en w' => ∃ v, en = .returned v ∧ R v w'
theorem Does.mono {P : Program} {f : FuncId} {args : Array Value} {w : World} {R R' : Value → World → Prop} (h : Does P f args w R) (hr : ∀ v w', R v w' → R' v w') : Does P f args w R' :=
 Calls.mono h fun _ _ ⟨v, he, hv⟩ => ⟨v, he, hr _ _ hv⟩
theorem getD_args (args : List Value) (k t : Nat) : (args.toArray ++ Array.replicate k undef).getD t undef = lget args t := by
 rw [lget_eq, Array.getD_eq_getD_getElem?, Array.getElem?_append]
 split
 ·simp [List.getD_eq_getElem?_getD]
 ·rename_i h
  have h' : args.length ≤ t := by simpa using h
  rw [List.getD_eq_getElem?_getD, List.getElem?_eq_none h']
  rw [Array.getElem?_replicate]
  split <;> rfl
theorem enter {P : Program} {f : FuncId} {fn : Func} {c : Code} {args : List Value} {n : Nat} {w : World} {R : Value → World → Prop} (hf : P.funcs[f]? = some fn) (hb : fn.body = some c) (hn : fn.ntmps = n) (hle : Nat.ble args.length n = true)
  (S0 : Nat → Prop) (L : List Chunk) (hL : Sat ⟨w, S0⟩ w L) (h : At ⟨w, S0⟩ (WC P n c (BodyQ P fn R)) (lget args) L) : Does P f args.toArray w R := by
 refine calls_of_wp hf hb ?_
 refine Code.wp_mono ?_ ((h.out w (Fr.refl w S0) hL).out _ ⟨rfl, ?_, ?_⟩)
 ·rintro x a w' ⟨e, hs, hq⟩
  cases x with
  | normal =>
   obtain ⟨v, hr, hR⟩ := hq a.tmps hs.val
   exact ⟨hs.defers, v, hr, v, rfl, hR⟩
  | ret =>
   obtain ⟨v, hr, hR⟩ := hq a.tmps hs.val
   exact ⟨hs.defers, v, hr, v, rfl, hR⟩
  | exit i => exact hq.elim
  | goto i => exact hq.elim
  | panic i => exact hq.elim
  | outgrown => exact hq.elim
 ·have hle' : args.length ≤ n := by simpa using hle
  simp only [hn, Array.size_append, List.size_toArray, Array.size_replicate]
  omega
 ·intro t
  exact getD_args args _ t
end Go.Vc

/- The rules for single operations of a region, over the functional frame. Conditions: none. -/
namespace Go.Vc
open Go
def Xw (ops : Array Oper) (o : Oper) (e : Xb) : Bool :=
 match o.guard with
 | none => true
 | some (j, b) => match (ops[j]?).bind (·.dst) with
  | none => false
  | some d => match e d, b with
   | .bool true, b => b
   | .bool false, true => false
   | .bool false, false => true
   | _, _ => false
theorem want_eq {n : Nat} {a : Act} {e : Xb} (h : Sim n a e) (ops : Array Oper) (o : Oper) : Region.wanted o (yielded ops a.tmps) = Xw ops o e := by
 unfold Region.wanted Xw
 cases hg : o.guard with
 | none => rfl
 | some jb =>
  obtain ⟨j, b⟩ := jb
  simp only [yielded]
  cases hd : (ops[j]?).bind (·.dst) with
  | none => rfl
  | some d =>
   simp only [Option.bind_some]
   have hv := h.val d
   rw [Array.getD_eq_getD_getElem?] at hv
   cases ht : a.tmps[d]? with
   | none =>
    rw [ht] at hv
    simp only [Option.getD_none] at hv
    rw [← hv]
    rfl
   | some v =>
    rw [ht] at hv
    simp only [Option.getD_some] at hv
    rw [← hv]
    cases v <;> first | rfl | (rename_i x; cases x <;> cases b <;> rfl)
section rules
variable {P : Program} {n : Nat} {cx : Cx} {Q : U4} {e : Xb} {L : List Chunk} {ops : Array Oper} {rest : List Oper}
theorem U1 {o : Oper} {d : Nat} (hw : Xw ops o e = false) (hd : o.dst = some d) (hn : Nat.blt d n = true) (k : At cx (WL P n ops Q rest) (upd e d undef) L) : At cx (WL P n ops Q (o :: rest)) e L :=
 ⟨fun w hF hS => ⟨fun a ha => by
  unfold wpList
  rw [want_eq ha, hw]
  rw [hd]
  exact (k.out w hF hS).out _ (ha.put hn undef)⟩⟩
theorem l_yields {o : Oper} {d : Nat} (hw : Xw ops o e = true) (hd : o.dst = some d) (hn : Nat.blt d n = true)
  (h : ∀ w, Fr cx w → Sat cx w L → ∃ v w', (execOp (ev e) o).run P w = .ok (.value v) w' ∧ WL P n ops Q rest (upd e d v) w') : At cx (WL P n ops Q (o :: rest)) e L :=
 ⟨fun w hF hS => ⟨fun a ha => by
  obtain ⟨v, w', hr, hk⟩ := h w hF hS
  unfold wpList
  rw [want_eq ha, hw, if_pos rfl]
  refine .inl ?_
  unfold Oper.wp
  rw [ha.ev, hr]
  show wpList P ops (lift n Q) rest (a.put o.dst v) w'
  rw [hd]
  exact hk.out _ (ha.put hn v)⟩⟩
theorem l_acts {o : Oper} (hw : Xw ops o e = true) (hd : o.dst = none)
  (h : ∀ w, Fr cx w → Sat cx w L → ∃ w', (execOp (ev e) o).run P w = .ok .skip w' ∧ WL P n ops Q rest e w') : At cx (WL P n ops Q (o :: rest)) e L :=
 ⟨fun w hF hS => ⟨fun a ha => by
  obtain ⟨w', hr, hk⟩ := h w hF hS
  unfold wpList
  rw [want_eq ha, hw, if_pos rfl]
  refine .inl ?_
  unfold Oper.wp
  rw [ha.ev, hr]
  show wpList P ops (lift n Q) rest (a.put o.dst undef) w'
  rw [hd]
  exact hk.out _ ha⟩⟩
theorem l_calls {o : Oper} {d : Nat} {f : FuncId} {args : Array Value} (hw : Xw ops o e = true) (hd : o.dst = some d) (hn : Nat.blt d n = true)
  (hr : ∀ w, (execOp (ev e) o).run P w = .ok (.enter f args) w)
  (h : ∀ w, Fr cx w → Sat cx w L → Does P f args w fun v w' => WL P n ops Q rest (upd e d v) w') : At cx (WL P n ops Q (o :: rest)) e L :=
 ⟨fun w hF hS => ⟨fun a ha => by
  unfold wpList
  rw [want_eq ha, hw, if_pos rfl]
  refine .inl ?_
  unfold Oper.wp
  rw [ha.ev, hr]
  show Calls P f args w _
  refine Calls.mono (h w hF hS) ?_
  rintro en w' ⟨v, rfl, hk⟩
  show wpList P ops (lift n Q) rest (a.put o.dst v) w'
  rw [hd]
  exact hk.out _ (ha.put hn v)⟩⟩
theorem Jp {o : Oper} {d : Nat} {v : Value} (hw : Xw ops o e = true) (hd : o.dst = some d) (hn : Nat.blt d n = true)
  (hr : ∀ w, (execOp (ev e) o).run P w = .ok (.value v) w) (k : At cx (WL P n ops Q rest) (upd e d v) L) : At cx (WL P n ops Q (o :: rest)) e L :=
 l_yields hw hd hn fun w hF hS => ⟨v, w, hr w, k.out w hF hS⟩
section ops
variable {d : Option Nat} {ty : TypeId} {pos : String} {af : Array Edge} {g : Option (Nat × Bool)}
theorem J2 {X : Operand} {v : Value} (hx : ev e X = v) (w : World) :
  (execOp (ev e) ⟨d, .move X, ty, pos, af, g⟩).run P w = .ok (.value v) w :=
 by subst hx; rfl
theorem Jw {X : Operand} {v : Value} (hx : ev e X = v) (w : World) :
  (execOp (ev e) ⟨d, .assign X, ty, pos, af, g⟩).run P w = .ok (.value v) w :=
 by subst hx; rfl
theorem r_pickT {c A B : Operand} {v : Value} (hc : ev e c = .bool true) (hx : ev e A = v) (w : World) :
  (execOp (ev e) ⟨d, .pick c A B, ty, pos, af, g⟩).run P w = .ok (.value v) w :=
 by subst hx; simp [execOp, hc, asBool]
theorem r_pickF {c A B : Operand} {v : Value} (hc : ev e c = .bool false) (hx : ev e B = v) (w : World) :
  (execOp (ev e) ⟨d, .pick c A B, ty, pos, af, g⟩).run P w = .ok (.value v) w :=
 by subst hx; simp [execOp, hc, asBool]
theorem split {K : Xb → World → Prop} {b : Bool} {d : Nat} (ht : b = true → At cx K (upd e d (.bool true)) L) (hf : b = false → At cx K (upd e d (.bool false)) L) : At cx K (upd e d (.bool b)) L := by
 cases b
 ·exact hf rfl
 ·exact ht rfl
theorem Uu {X : Operand} {b : Bool} {t : TypeId} (hx : ev e X = .bool b) (w : World) :
  (execOp (ev e) ⟨d, .unOp .not t X, ty, pos, af, g⟩).run P w = .ok (.value (.bool (!b))) w :=
 by simp [execOp, hx, Op.unary]
section bin
variable {X Y : Operand} {x y : Int} {t t' : TypeId} {kd : IntKind}
theorem run_guard_int (w : World) (op : BinOp) : (eqGuard op t X Y (.int kd x) (.int kd y)).run P w = .ok () w := by
 unfold eqGuard; cases op <;> rfl
theorem r_bin {op : BinOp} {v : Value} (hx : ev e X = .int kd x) (hy : ev e Y = .int kd y)
  (hr : ∀ w, (binOp op t (.int kd x) (.int kd y)).run P w = .ok v w) (w : World) :
  (execOp (ev e) ⟨d, .binOp op t X Y t', ty, pos, af, g⟩).run P w = .ok (.value v) w :=
 by simp [execOp, hx, hy, run_guard_int, hr]
theorem r_add (hx : ev e X = .int .i64 x) (hy : ev e Y = .int .i64 y)
  (hr : -9223372036854775808 ≤ x + y ∧ x + y ≤ 9223372036854775807) (w : World) :
  (execOp (ev e) ⟨d, .binOp .add t X Y t', ty, pos, af, g⟩).run P w = .ok (.value (.int .i64 (x + y))) w :=
 r_bin hx hy (fun w => by simp [binOp, Op.intArith, IntWalk.i64_in _ hr]) w
theorem r_sub (hx : ev e X = .int .i64 x) (hy : ev e Y = .int .i64 y)
  (hr : -9223372036854775808 ≤ x - y ∧ x - y ≤ 9223372036854775807) (w : World) :
  (execOp (ev e) ⟨d, .binOp .sub t X Y t', ty, pos, af, g⟩).run P w = .ok (.value (.int .i64 (x - y))) w :=
 r_bin hx hy (fun w => by simp [binOp, Op.intArith, IntWalk.i64_in _ hr]) w
theorem r_mul (hx : ev e X = .int .i64 x) (hy : ev e Y = .int .i64 y)
  (hr : -9223372036854775808 ≤ x * y ∧ x * y ≤ 9223372036854775807) (w : World) :
  (execOp (ev e) ⟨d, .binOp .mul t X Y t', ty, pos, af, g⟩).run P w = .ok (.value (.int .i64 (x * y))) w :=
 r_bin hx hy (fun w => by simp [binOp, Op.intArith, IntWalk.i64_in _ hr]) w
theorem r_rem (hx : ev e X = .int kd x) (hy : ev e Y = .int kd y)
  (hy0 : y ≠ 0) (w : World) :
  (execOp (ev e) ⟨d, .binOp .rem t X Y t', ty, pos, af, g⟩).run P w = .ok (.value (.int kd (x.tmod y))) w :=
 r_bin hx hy (fun w => by simp [binOp, Op.intDiv, hy0]) w
theorem Yc (hx : ev e X = .int kd x) (hy : ev e Y = .int kd y) (w : World) :
  (execOp (ev e) ⟨d, .binOp .lss t X Y t', ty, pos, af, g⟩).run P w = .ok (.value (.bool (decide (x < y)))) w :=
 r_bin hx hy (fun w => by simp [binOp, Op.intCmp]) w
theorem r_leq (hx : ev e X = .int kd x) (hy : ev e Y = .int kd y) (w : World) :
  (execOp (ev e) ⟨d, .binOp .leq t X Y t', ty, pos, af, g⟩).run P w = .ok (.value (.bool (decide (x ≤ y)))) w :=
 r_bin hx hy (fun w => by simp [binOp, Op.intCmp]) w
theorem Vz (hx : ev e X = .int kd x) (hy : ev e Y = .int kd y) (w : World) :
  (execOp (ev e) ⟨d, .binOp .gtr t X Y t', ty, pos, af, g⟩).run P w = .ok (.value (.bool (decide (y < x)))) w :=
 r_bin hx hy (fun w => by simp [binOp, Op.intCmp]) w
theorem r_geq (hx : ev e X = .int kd x) (hy : ev e Y = .int kd y) (w : World) :
  (execOp (ev e) ⟨d, .binOp .geq t X Y t', ty, pos, af, g⟩).run P w = .ok (.value (.bool (decide (y ≤ x)))) w :=
 r_bin hx hy (fun w => by simp [binOp, Op.intCmp]) w
theorem Xg (hx : ev e X = .int kd x) (hy : ev e Y = .int kd y) (w : World) :
  (execOp (ev e) ⟨d, .binOp .eql t X Y t', ty, pos, af, g⟩).run P w = .ok (.value (.bool (decide (x = y)))) w :=
 r_bin hx hy (fun w => by simp [binOp, Op.intCmp]; rfl) w
theorem Yo (hx : ev e X = .int kd x) (hy : ev e Y = .int kd y) (w : World) :
  (execOp (ev e) ⟨d, .binOp .neq t X Y t', ty, pos, af, g⟩).run P w = .ok (.value (.bool (decide (x ≠ y)))) w :=
 r_bin hx hy (fun w => by simp [binOp, Op.intCmp, bne]; rfl) w
end bin
theorem Jv {X : Operand} {ix : Nat} {vs : Array Value} {v : Value} (hx : ev e X = .tuple vs) (hv : vs[ix]? = some v) (w : World) :
  (execOp (ev e) ⟨d, .extract X ix, ty, pos, af, g⟩).run P w = .ok (.value v) w :=
 by simp [execOp, hx, Instr.extract, hv]
theorem r_max {X Y : Operand} {x y : Int} {kd : IntKind} {tys : Array TypeId}
  (hx : ev e X = .int kd x) (hy : ev e Y = .int kd y) (w : World) :
  (execOp (ev e) ⟨d, .call ⟨.builtin .max, #[X, Y], tys⟩, ty, pos, af, g⟩).run P w = .ok (.value (.int kd (max x y))) w :=
 by
  have : (if y > x then y else x) = max x y := by rw [Int.max_def]; split <;> split <;> omega
  simp [execOp, resolve, invoke, builtin, hx, hy, Builtin.max_, Builtin.max2]; simpa using this
theorem Q6 {t : TypeId} {parts : Array (Nat × Operand)} {fs : Array Field} {pl : Array (Nat × Nat)} {z cells : Array Value} {ps : List (Nat × Value)}
  (hz : ∀ w, (zeroValue t).run P w = .ok (.agg z) w) (hu : ∀ w, (underlying t).run P w = .ok (.struct fs) w)
  (hpl : ∀ w, (fs.mapM fun f => do pure (f.offset, ← sizeOf f.type) : Sem (Array (Nat × Nat))).run P w = .ok pl w)
    
  (hps : parts.toList.map (fun (i, x) => (i, ev e x)) = ps) (hf : Instr.fill (pl[·]?) z ps = some cells) (w : World) :
  (execOp (ev e) ⟨d, .build t parts, ty, pos, af, g⟩).run P w = .ok (.value (.agg cells)) w :=
 by
  have hz' : (Value.agg z).cells = z := rfl
  have hps' : (parts.map fun (i, x) => (i, ev e x)).toList = ps := by rw [← hps, Array.toList_map]
  simp only [execOp, Instr.build, Sem.run_bind, hz, hu, Result.andThen_ok, hpl, hps', hz', hf, Sem.run_pure]
end ops
end rules
end Go.Vc

/- The rules for memory, calls, loops and returns, over the functional frame. Conditions: none. -/
namespace Go.Vc
open Go
def Jg (b : Nat) (cs : List Value) (T : TypeId) : Chunk where
 P S w := (∀ x, S x ↔ x = b) ∧ w.heap[b]? = some (.cells cs.toArray T (0, 0))
 loc S w w' h hp := ⟨hp.1, by rw [h b ((hp.1 b).2 rfl)]; exact hp.2⟩
def rdn : List Value → Nat → Option (List Value)
 | _, 0 => some []
 | [], _ + 1 => none
 | v :: r, k + 1 => (rdn r k).map (v :: ·)
def rd : List Value → Nat → Nat → Option (List Value)
 | cs, 0, k => rdn cs k
 | [], _ + 1, k => rdn [] k
 | _ :: r, o + 1, k => rd r o k
def wrn : List Value → List Value → Option (List Value)
 | cs, [] => some cs
 | [], _ :: _ => none
 | _ :: r, v :: vs => (wrn r vs).map (v :: ·)
def wr : List Value → Nat → List Value → Option (List Value)
 | cs, 0, vs => wrn cs vs
 | [], _ + 1, [] => some []
 | [], _ + 1, _ :: _ => none
 | c :: r, o + 1, vs => (wr r o vs).map (c :: ·)
def rg : List Value → Nat → Option Value
 | [], _ => none
 | v :: _, 0 => some v
 | _ :: r, k + 1 => rg r k
theorem rg_eq : ∀ (cs : List Value) (k : Nat), rg cs k = cs[k]?
 | [], _ => by simp [rg]
 | v :: r, 0 => by simp [rg]
 | v :: r, k + 1 => by simp [rg, rg_eq r k]
theorem rdn_get {cs : List Value} : ∀ {k : Nat} {vs : List Value}, rdn cs k = some vs → vs.length = k ∧ ∀ (j : Nat) (v : Value), vs[j]? = some v → cs[j]? = some v := by
 induction cs with
 | nil => intro k vs h; cases k <;> simp [rdn] at h; subst h; exact ⟨rfl, by simp⟩
 | cons c r ih =>
  intro k vs h
  cases k with
  | zero => simp [rdn] at h; subst h; exact ⟨rfl, by simp⟩
  | succ k =>
   simp only [rdn, Option.map_eq_some_iff] at h
   obtain ⟨x, hx, rfl⟩ := h
   obtain ⟨h1, h2⟩ := ih hx
   refine ⟨by simp [h1], fun j v hv => ?_⟩
   cases j with
   | zero => simpa using hv
   | succ j => simp at hv ⊢; exact h2 j v hv
theorem rd_get {cs : List Value} {o k : Nat} {vs : List Value} (h : rd cs o k = some vs) : vs.length = k ∧ ∀ (j : Nat) (v : Value), vs[j]? = some v → cs[o + j]? = some v := by
 induction cs generalizing o with
 | nil =>
  cases o with
  | zero => simpa using rdn_get h
  | succ o =>
   obtain ⟨h1, h2⟩ := rdn_get (cs := []) (by simpa [rd] using h)
   exact ⟨h1, fun j v hv => by have := h2 j v hv; simp at this⟩
 | cons c r ih =>
  cases o with
  | zero => simpa using rdn_get h
  | succ o =>
   obtain ⟨h1, h2⟩ := ih (o := o) (by simpa [rd] using h)
   exact ⟨h1, fun j v hv => by have := h2 j v hv; rw [show o + 1 + j = (o + j) + 1 from by omega]; simpa using this⟩
theorem wrn_eq {cs vs cs' : List Value} (h : wrn cs vs = some cs') : vs.length ≤ cs.length ∧ cs' = vs ++ cs.drop vs.length := by
 induction vs generalizing cs cs' with
 | nil => cases cs <;> simp [wrn] at h <;> subst h <;> simp
 | cons v vs ih =>
  cases cs with
  | nil => simp [wrn] at h
  | cons c r =>
   simp only [wrn, Option.map_eq_some_iff] at h
   obtain ⟨x, hx, rfl⟩ := h
   obtain ⟨h1, h2⟩ := ih hx
   exact ⟨by simp; omega, by simp [h2]⟩
theorem wr_eq {cs vs cs' : List Value} {o : Nat} (h : wr cs o vs = some cs') (hne : 0 < vs.length) : o + vs.length ≤ cs.length ∧ cs' = cs.take o ++ vs ++ cs.drop (o + vs.length) := by
 induction cs generalizing o cs' with
 | nil =>
  cases o with
  | zero => obtain ⟨h1, h2⟩ := wrn_eq (cs := []) (by simpa [wr] using h); simp at h1; simp [h1] at hne
  | succ o => cases vs <;> simp [wr] at h hne
 | cons c r ih =>
  cases o with
  | zero => obtain ⟨h1, h2⟩ := wrn_eq (cs := c :: r) (by simpa [wr] using h); exact ⟨by simpa using h1, by simp [h2]⟩
  | succ o =>
   simp only [wr, Option.map_eq_some_iff] at h
   obtain ⟨x, hx, rfl⟩ := h
   obtain ⟨h1, h2⟩ := ih hx
   refine ⟨by simp; omega, ?_⟩
   rw [show o + 1 + vs.length = (o + vs.length) + 1 from by omega]
   simp [h2]
theorem Jac (w : World) (o : Obj) : Grow w (w.alloc o) := Go.RowKit.Below.alloc (Go.RowKit.Below.refl _ _) (Nat.le_refl _) o
theorem run_newVar {P : Program} (t : TypeId) (v : Value) (w : World) : (newVar t v).run P w = .ok ⟨w.heap.size, 0, none⟩ (w.alloc (.cells v.cells t)) := by
 simp [newVar, newRow, newObj, Sem.run]
section rules
variable {P : Program} {n : Nat} {cx : Cx} {Q : U4} {e : Xb} {L : List Chunk} {ops : Array Oper} {rest : List Oper}
variable {d : Nat} {ty : TypeId} {pos : String} {af : Array Edge} {g : Option (Nat × Bool)}
theorem sat_new {w : World} (hF : Fr cx w) (hS : Sat cx w L) (cs : List Value) (T : TypeId) : Sat cx (w.alloc (.cells cs.toArray T)) (L ++ [Jg w.heap.size cs T]) :=
 hS.snoc hF (Jac w _) (S := fun x => x = w.heap.size) ⟨fun _ => Iff.rfl, heap_alloc_new w _⟩ (fun b hb => by subst hb; exact ⟨Nat.le_refl _, by simp⟩)
theorem Z5 {T : TypeId} {X : Operand} {x : Value} {cs : List Value} (hw : Xw ops ⟨some d, .box T X, ty, pos, af, g⟩ e = true) (hn : Nat.blt d n = true) (hx : ev e X = x) (hc : x.cells.toList = cs)
  (k : ∀ b, At cx (WL P n ops Q rest) (upd e d (.pointer (some ⟨b, 0, none⟩))) (L ++ [Jg b cs T])) : At cx (WL P n ops Q (⟨some d, .box T X, ty, pos, af, g⟩ :: rest)) e L :=
 l_yields hw rfl hn fun w hF hS => ⟨.pointer (some ⟨w.heap.size, 0, none⟩), w.alloc (.cells cs.toArray T), by
  subst hc
  simp [execOp, Instr.box, run_newVar, hx], (k w.heap.size).out _ (hF.grow (Jac w _)) (sat_new hF hS cs T)⟩
theorem Xf {T : TypeId} {z : Value} {cs : List Value} (hz : ∀ w, (zeroValue T).run P w = .ok z w) (hc : z.cells.toList = cs) (hw : Xw ops ⟨some d, .alloc T, ty, pos, af, g⟩ e = true) (hn : Nat.blt d n = true)
  (k : ∀ b, At cx (WL P n ops Q rest) (upd e d (.pointer (some ⟨b, 0, none⟩))) (L ++ [Jg b cs T])) : At cx (WL P n ops Q (⟨some d, .alloc T, ty, pos, af, g⟩ :: rest)) e L :=
 l_yields hw rfl hn fun w hF hS => ⟨.pointer (some ⟨w.heap.size, 0, none⟩), w.alloc (.cells cs.toArray T), by
  subst hc
  simp [execOp, Instr.alloc, hz, run_newVar], (k w.heap.size).out _ (hF.grow (Jac w _)) (sat_new hF hS cs T)⟩
theorem Q8 {w : World} {i b : Nat} {cs : List Value} {T : TypeId} (hS : Sat cx w L) (hL : L[i]? = some (Jg b cs T)) : w.heap[b]? = some (.cells cs.toArray T (0, 0)) := by
 obtain ⟨fp, h1, _, _⟩ := hS.out
 exact (h1 i _ hL).2
theorem cell_of {w : World} {b o : Nat} {cs : List Value} {T : TypeId} (h : w.heap[b]? = some (.cells cs.toArray T (0, 0))) : w.cell? ⟨b, o, none⟩ = cs[o]? := by
 simp [World.cell?, h]
theorem Vo {T k b o : Nat} {vs : List Value} {w : World} (hA : ∀ w, (isAgg T).run P w = .ok true w) (hs : ∀ w, (sizeOf T).run P w = .ok k w) (hl : vs.length = k)
  (h : ∀ j v, vs[j]? = some v → w.cell? ⟨b, o + j, none⟩ = some v) : (loadVar T ⟨b, o, none⟩).run P w = .ok (.agg vs.toArray) w := by
 subst hl
 have := run_loadCells_list (P := P) (w := w) ⟨b, o, none⟩ vs (fun j v hv => by rw [Addr.add_lit]; exact h j v hv)
 simp [loadVar, hA, hs, this]
theorem U8 {T b o : Nat} {v : Value} {w : World} (hA : ∀ w, (isAgg T).run P w = .ok false w) (h : w.cell? ⟨b, o, none⟩ = some v) : (loadVar T ⟨b, o, none⟩).run P w = .ok v w := by
 simp [loadVar, hA, Go.load, Sem.run, h]
theorem l_load1 {i : Nat} {T T0 b o : Nat} {A : Operand} {cs : List Value} {v : Value} (hA : ∀ w, (isAgg T).run P w = .ok false w)
  (hw : Xw ops ⟨some d, .load T A, ty, pos, af, g⟩ e = true) (hn : Nat.blt d n = true) (hp : ev e A = .pointer (some ⟨b, o, none⟩)) (hL : L[i]? = some (Jg b cs T0)) (hv : rg cs o = some v)
  (k : At cx (WL P n ops Q rest) (upd e d v) L) : At cx (WL P n ops Q (⟨some d, .load T A, ty, pos, af, g⟩ :: rest)) e L :=
 l_yields hw rfl hn fun w hF hS => ⟨v, w, by
  have hc := cell_of (o := o) (Q8 hS hL)
  rw [← rg_eq, hv] at hc
  simp [execOp, Instr.loadAt, Instr.sureAddr, hp, U8 hA hc], k.out w hF hS⟩
theorem Qx {i : Nat} {T T0 b o sz : Nat} {A : Operand} {cs vs : List Value} (hA : ∀ w, (isAgg T).run P w = .ok true w) (hs : ∀ w, (sizeOf T).run P w = .ok sz w)
  (hw : Xw ops ⟨some d, .load T A, ty, pos, af, g⟩ e = true) (hn : Nat.blt d n = true) (hp : ev e A = .pointer (some ⟨b, o, none⟩)) (hL : L[i]? = some (Jg b cs T0)) (hv : rd cs o sz = some vs)
  (k : At cx (WL P n ops Q rest) (upd e d (.agg vs.toArray)) L) : At cx (WL P n ops Q (⟨some d, .load T A, ty, pos, af, g⟩ :: rest)) e L :=
 l_yields hw rfl hn fun w hF hS => ⟨.agg vs.toArray, w, by
  obtain ⟨h1, h2⟩ := rd_get hv
  have hr := Vo (P := P) (w := w) (b := b) (o := o) hA hs h1 (fun j v hj => by rw [cell_of (Q8 hS hL)]; exact h2 j v hj)
  simp [execOp, Instr.loadAt, Instr.sureAddr, hp, hr], k.out w hF hS⟩
theorem Ya {i : Nat} {T T0 b o sz : Nat} {A X : Operand} {x : Value} {cs cs' vs : List Value} (hs : ∀ w, (sizeOf T).run P w = .ok sz w)
  (hw : Xw ops ⟨none, .store T A X, ty, pos, af, g⟩ e = true) (hp : ev e A = .pointer (some ⟨b, o, none⟩)) (hx : ev e X = x) (hc : x.cells.toList = vs) (hsz : vs.length = sz) (hpos : Nat.blt 0 sz = true)
  (hone : vs.all Value.oneCell' = true)
  (hL : L[i]? = some (Jg b cs T0)) (hv : wr cs o vs = some cs')
  (k : At cx (WL P n ops Q rest) e (L.set i (Jg b cs' T0))) : At cx (WL P n ops Q (⟨none, .store T A X, ty, pos, af, g⟩ :: rest)) e L :=
 l_acts hw rfl fun w hF hS => by
  have hb := Q8 hS hL
  have hpos' : 0 < vs.length := by rw [hsz]; simpa using hpos
  obtain ⟨h1, h2⟩ := wr_eq hv hpos'
  have hst := run_storeCells_at P b o T0 vs 0 cs.toArray w hb (by simpa using h1) (by simpa using hone)
  refine ⟨w.setRow b cs'.toArray, ?_, ?_⟩
  ·have hsz' : x.cells.size = sz := by rw [← hsz, ← hc]; simp
   simp only [Nat.add_zero, List.append_assoc] at hst
   simp only [execOp, Instr.storeAt, Instr.sureAddr, storeVar, hp, hx, Sem.run_bind, Sem.run_pure, Result.andThen_ok, hs, hsz', ne_eq, not_true_eq_false, if_false, hc, hst]
   rw [h2]; simp
  ·have hset := setRow_heap w b cs.toArray cs'.toArray T0 (0, 0) hb
   refine k.out _ ⟨hF.os, hF.tape, hF.output, by simpa using hF.size, fun c hcn => ?_⟩ ?_
   ·rw [setRow_other w b c _ (fun e => ?_)]
    ·exact hF.block c hcn
    ·obtain ⟨fp, f1, f2, _⟩ := hS.out
     have := (f2 i b ((f1 i _ hL).1 b |>.2 rfl)).2.2
     subst e
     exact hcn this
   ·refine hS.set hF hL (by simp) fun S hSp hSo => ⟨S, ⟨hSp.1, hset⟩, fun c hc => ⟨by simpa using (hSo c hc).1, .inl hc⟩, fun c _ hcS => setRow_other w b c _ (fun e => hcS ((hSp.1 c).2 e))⟩
theorem J3 {d : Option Nat} {T fld b o fo ft fsz bo : Nat} {nm tg pk : String} {em : Bool} {X : Operand} {fs : Array Field} (hu : ∀ w, (underlying T).run P w = .ok (.struct fs) w)
  (hf : fs[fld]? = some ⟨nm, ft, fo, em, tg, pk, bo⟩) (hs : ∀ w, (sizeOf ft).run P w = .ok fsz w) (hsz : Nat.blt 0 fsz = true) (hp : ev e X = .pointer (some ⟨b, o, none⟩)) (w : World) :
  (execOp (ev e) ⟨d, .fieldAddr T X fld, ty, pos, af, g⟩).run P w = .ok (.value (.pointer (some ⟨b, o + fo, none⟩))) w := by
 have hne : fsz ≠ 0 := by have : 0 < fsz := by simpa using hsz
                          omega
 simp [execOp, Instr.fieldAt, hu, hf, Instr.sureAddr, hp, fieldPlace, hs, hne, Addr.add_lit]
def Ret (P : Program) (f : FuncId) (args : List Value) (v : Value) : Prop := ∀ w, Does P f args.toArray w fun v' w' => v' = v ∧ Grow w w'
theorem run_call {f : FuncId} {A : Array Operand} {tys : Array TypeId} {args : List Value} (hc : ∀ args w, (callFunc f args).run P w = .ok (.enter f args) w) (ha : A.toList.map (ev e) = args) (w : World) :
  (execOp (ev e) ⟨some d, .call ⟨.value (.func f), A, tys⟩, ty, pos, af, g⟩).run P w = .ok (.enter f args.toArray) w := by
 subst ha
 have : (A.toList.map (ev e)).toArray = A.map (ev e) := by rw [← Array.toList_map, Array.toArray_toList]
 rw [this]
 simp only [execOp, resolve, ev, Deferred.ofValue, Sem.run_bind, Sem.run_pure, Result.andThen_ok, invoke, hc, Array.append_empty, Array.empty_append]
theorem Xy {f : FuncId} {A : Array Operand} {tys : Array TypeId} {args : List Value} {v : Value} (h : Ret P f args v) (hc : ∀ args w, (callFunc f args).run P w = .ok (.enter f args) w)
  (hw : Xw ops ⟨some d, .call ⟨.value (.func f), A, tys⟩, ty, pos, af, g⟩ e = true) (hn : Nat.blt d n = true) (ha : A.toList.map (ev e) = args)
  (k : At cx (WL P n ops Q rest) (upd e d v) L) : At cx (WL P n ops Q (⟨some d, .call ⟨.value (.func f), A, tys⟩, ty, pos, af, g⟩ :: rest)) e L :=
 l_calls hw rfl hn (run_call hc ha) fun w hF hS => (h w).mono fun v' w' ⟨hv, hg⟩ => by
  subst hv
  exact k.out w' (hF.grow hg) (hS.grow hg)
theorem results_one {fn : Func} {t : Tmp} (h : fn.results = #[.tmp t]) (tmps : Array Value) (w : World) : (results fn tmps).run P w = .ok (tmps.getD t undef) w := by
 simp [results, h]
theorem results_two {fn : Func} {t u : Tmp} (h : fn.results = #[.tmp t, .tmp u]) (tmps : Array Value) (w : World) : (results fn tmps).run P w = .ok (.tuple #[tmps.getD t undef, tmps.getD u undef]) w := by
 simp [results, h]
theorem ret1 {fn : Func} {R : Value → World → Prop} {t : Tmp} {v : Value} (hr : fn.results = #[.tmp t]) (ht : e t = v) (k : ∀ w, Fr cx w → Sat cx w L → R v w) : At cx (BodyQ P fn R .ret) e L :=
 ⟨fun w hF hS tmps hs => ⟨v, by rw [results_one hr, hs, ht], k w hF hS⟩⟩
theorem Z2 {fn : Func} {R : Value → World → Prop} {t u : Tmp} {v1 v2 : Value} (hr : fn.results = #[.tmp t, .tmp u]) (h1 : e t = v1) (h2 : e u = v2) (k : ∀ w, Fr cx w → Sat cx w L → R (.tuple #[v1, v2]) w) : At cx (BodyQ P fn R .ret) e L :=
 ⟨fun w hF hS tmps hs => ⟨.tuple #[v1, v2], by rw [results_two hr, hs, hs, h1, h2], k w hF hS⟩⟩
theorem results_cell1 {fn : Func} {t T b : Nat} {v : Value} (h : fn.results = #[.cell t T]) (tmps : Array Value) (w : World) (ht : tmps.getD t undef = .pointer (some ⟨b, 0, none⟩)) (hl : (loadVar T ⟨b, 0, none⟩).run P w = .ok v w) :
  (results fn tmps).run P w = .ok v w := by
 rw [Array.getD_eq_getD_getElem?] at ht
 simp [results, h, ht, asAddr, hl]
theorem results_cell1t {fn : Func} {t T b u : Nat} {v : Value} (h : fn.results = #[.cell t T, .tmp u]) (tmps : Array Value) (w : World) (ht : tmps.getD t undef = .pointer (some ⟨b, 0, none⟩)) (hl : (loadVar T ⟨b, 0, none⟩).run P w = .ok v w) :
  (results fn tmps).run P w = .ok (.tuple #[v, tmps.getD u undef]) w := by
 rw [Array.getD_eq_getD_getElem?] at ht
 simp [results, h, ht, asAddr, hl]
theorem retC {i : Nat} {fn : Func} {R : Value → World → Prop} {t T T0 b sz : Nat} {cs vs : List Value} (hA : ∀ w, (isAgg T).run P w = .ok true w) (hs : ∀ w, (sizeOf T).run P w = .ok sz w) (hr : fn.results = #[.cell t T])
  (ht : e t = .pointer (some ⟨b, 0, none⟩)) (hL : L[i]? = some (Jg b cs T0)) (hv : rd cs 0 sz = some vs) (k : ∀ w, Fr cx w → Sat cx w L → R (.agg vs.toArray) w) : At cx (BodyQ P fn R .ret) e L :=
 ⟨fun w hF hS tmps hts => ⟨.agg vs.toArray, by
  obtain ⟨h1, h2⟩ := rd_get hv
  have hl := Vo (P := P) (w := w) (b := b) (o := 0) hA hs h1 (fun j v hj => by rw [cell_of (Q8 hS hL)]; exact h2 j v hj)
  exact results_cell1 hr tmps w (by rw [hts, ht]) hl, k w hF hS⟩⟩
theorem retCt {i : Nat} {fn : Func} {R : Value → World → Prop} {t T T0 b sz u : Nat} {cs vs : List Value} {v2 : Value} (hA : ∀ w, (isAgg T).run P w = .ok true w) (hs : ∀ w, (sizeOf T).run P w = .ok sz w) (hr : fn.results = #[.cell t T, .tmp u])
  (ht : e t = .pointer (some ⟨b, 0, none⟩)) (hL : L[i]? = some (Jg b cs T0)) (hv : rd cs 0 sz = some vs) (h2 : e u = v2) (k : ∀ w, Fr cx w → Sat cx w L → R (.tuple #[.agg vs.toArray, v2]) w) : At cx (BodyQ P fn R .ret) e L :=
 ⟨fun w hF hS tmps hts => ⟨.tuple #[.agg vs.toArray, v2], by
  obtain ⟨h1, h2'⟩ := rd_get hv
  have hl := Vo (P := P) (w := w) (b := b) (o := 0) hA hs h1 (fun j v hj => by rw [cell_of (Q8 hS hL)]; exact h2' j v hj)
  rw [results_cell1t hr tmps w (by rw [hts, ht]) hl, hts, h2], k w hF hS⟩⟩
theorem fin {w0 : World} {L : List Chunk} {v v' : Value} (h : v' = v) : ∀ w, Fr ⟨w0, fun _ => False⟩ w → Sat ⟨w0, fun _ => False⟩ w L → (v' = v ∧ Grow w0 w) :=
 fun w hF _ => ⟨h, hF.os, hF.tape, hF.output, hF.size, fun k hk => hF.block k (by simp [Cx.own]; exact hk)⟩
theorem Xr {f : FuncId} {fn : Func} {c : Code} {args : List Value} {v : Value} (hf : P.funcs[f]? = some fn) (hb : fn.body = some c) (hn : fn.ntmps = n) (hle : Nat.ble args.length n = true)
  (h : ∀ w, At ⟨w, fun _ => False⟩ (WC P n c (BodyQ P fn fun v' w' => v' = v ∧ Grow w w')) (lget args) []) : Ret P f args v :=
 fun w => enter hf hb hn hle (fun _ => False) [] (Sat.nil _ _) (h w)
def mkE : List (Nat × Value) → Xb → Xb
 | [], g => g
 | (a, v) :: r, g => fun t => bif Nat.beq t a then v else mkE r g t
def Agree (e : Xb) : List (Nat × Value) → Prop
 | [] => True
 | (a, v) :: r => e a = v ∧ Agree e r
theorem mkE_self (e : Xb) : ∀ l, Agree e l → mkE l e = e
 | [], _ => rfl
 | (a, v) :: r, ⟨h, hr⟩ => by
  funext t
  simp only [mkE, beq_eq, mkE_self e r hr]
  by_cases ht : t = a
  ·simp [ht, h]
  ·simp [ht]
structure RoundEnd {σ : Type} (cx : Cx) (st : σ → List (Nat × Value)) (hp : σ → List Chunk) (I : σ → Prop) (m : Nat) (μ : σ → Nat) (e : Xb) (w : World) : Prop where
 out : ∃ s, Agree e (st s) ∧ Fr cx w ∧ Sat cx w (hp s) ∧ I s ∧ μ s < m
end rules
end Go.Vc

/- A region whose order Go leaves open: one walk in the order of the text serves every order, also where operations make memory or turn it. Conditions: what two operations both touch is ordered by the region's edges (a Bool that the kernel reckons). -/
namespace Go.Vc
open Go
inductive Kd where
 | p
 | g (rs rds wrs : List Nat) (V : List Value → List (Option Chunk) → Value → Prop) (T : List Value → List (Option Chunk) → Value → List Chunk)
def Kd.d (rds : List Nat) (v0 : Value) : Kd := .g [] rds [] (fun _ _ v => v = v0) (fun _ _ _ => [])
abbrev Look := Nat → Option Chunk
def look (L : List Chunk) : Look := fun i => L[i]?
def Kd.rs : Kd → List Nat | .p => [] | .g rs _ _ _ _ => rs
def Kd.rds : Kd → List Nat | .p => [] | .g _ rds _ _ _ => rds
def Kd.wrs : Kd → List Nat | .p => [] | .g _ _ wrs _ _ => wrs
def Kd.V (P : Program) (o : Oper) (s : Kd) (e : Xb) (l : Look) (v : Value) : Prop :=
 match s with
 | .p => ∀ w, (execOp (ev e) o).run P w = .ok (.value v) w
 | .g rs rds _ V _ => V (rs.map e) (rds.map l) v
def Kd.T (s : Kd) (e : Xb) (l : Look) (v : Value) : List (Nat × Chunk) :=
 match s with
 | .p => []
 | .g rs rds wrs _ T => wrs.zip (T (rs.map e) (rds.map l) v)
def Vj (L : List Chunk) : List (Nat × Chunk) → List Chunk
 | [] => L
 | (i, c) :: r => Vj (L.set i c) r
def putD (e : Xb) (d : Option Nat) (v : Value) : Xb := match d with | some d => upd e d v | none => e
def RunsTo (P : Program) (ρ : Operand → Value) (o : Oper) (w : World) (R : Value → World → Prop) : Prop :=
 match (execOp ρ o).run P w with
 | .ok (.value v) w' => R v w'
 | .ok .skip w' => R undef w'
 | .ok (.enter f args) w' => Does P f args w' R
 | _ => False
theorem RunsTo.mono {P : Program} {ρ : Operand → Value} {o : Oper} {w : World} {R R' : Value → World → Prop} (h : RunsTo P ρ o w R) (hr : ∀ v w', R v w' → R' v w') : RunsTo P ρ o w R' := by
 unfold RunsTo at *
 generalize (execOp ρ o).run P w = r at *
 cases r with
 | halt x w' => exact h
 | ok nx w' =>
  cases nx <;> first | exact hr _ _ h | exact Does.mono h hr | exact h
structure LV (P : Program) (cx : Cx) (o : Oper) (s : Kd) (e : Xb) (L : List Chunk) : Prop where
 out : ∀ (w : World) (L' : List Chunk), Fr cx w → Sat cx w L' → L'.length = L.length → (∀ i, i ∈ s.rds ∨ i ∈ s.wrs → L'[i]? = L[i]?) →
  RunsTo P (ev e) o w (fun v w' => s.V P o e (look L) v ∧ Fr cx w' ∧ Sat cx w' (Vj L' (s.T e (look L) v)))
inductive Sq (P : Program) (cx : Cx) (ops : Array Oper) (F : Xb → List Chunk → Prop) : List Oper → List Kd → Xb → List Chunk → Prop
 | nil {e : Xb} {L : List Chunk} (h : F e L) : Sq P cx ops F [] [] e L
 | pass {o : Oper} {os : List Oper} {s : Kd} {ss : List Kd} {e : Xb} {L : List Chunk} (hw : Xw ops o e = false) (h : Sq P cx ops F os ss (putD e o.dst undef) L) : Sq P cx ops F (o :: os) (s :: ss) e L
 | take {o : Oper} {os : List Oper} {s : Kd} {ss : List Kd} {e : Xb} {L : List Chunk} (hw : Xw ops o e = true) (hi : ∃ v, s.V P o e (look L) v) (hl : LV P cx o s e L)
   (h : ∀ v, s.V P o e (look L) v → Sq P cx ops F os ss (putD e o.dst v) (Vj L (s.T e (look L) v))) : Sq P cx ops F (o :: os) (s :: ss) e L
def binding (o : Oper) (i : Nat) : Bool := o.after.toList.any fun x => Region.binds .any x && Nat.beq x.on i
def reach (l : List Oper) : Nat → Nat → Nat → Bool
 | 0, _, _ => false
 | f + 1, k, i =>
  match l[k]? with
  | none => false
  | some o => binding o i || o.after.toList.any fun x => Region.binds .any x && reach l f x.on i
def meets (a b : List Nat) : Bool := a.any fun x => b.any fun y => Nat.beq x y
def clash (ops : Array Oper) (o1 o2 : Oper) (s1 s2 : Kd) : Bool :=
 meets o1.dst.toList (o2.looksAt ops) || meets o1.dst.toList o2.dst.toList || meets o2.dst.toList (o1.looksAt ops) ||
 meets s1.wrs s2.rds || meets s1.wrs s2.wrs || meets s1.rds s2.wrs
def subs (a b : List Nat) : Bool := a.all fun x => b.any fun y => Nat.beq x y
def checkD (n : Nat) (l : List Oper) (sp : List Kd) : Bool :=
 Nat.beq l.length sp.length && Region.noSelect l.toArray &&
 (List.range l.length).all fun k =>
  match l[k]?, sp[k]? with
  | some o, some s =>
   (o.after.toList.all fun x => !Region.binds .any x || Nat.blt x.on k) && (o.dst.all fun d => Nat.blt d n) && subs s.rs (o.looksAt l.toArray) &&
   (List.range k).all fun i =>
    match l[i]?, sp[i]? with
    | some o1, some s1 => !clash l.toArray o1 o s1 s || reach l 3 k i
    | _, _ => false
  | _, _ => false
theorem meets_of {a b : List Nat} {x : Nat} (ha : x ∈ a) (hb : x ∈ b) : meets a b = true := by
 unfold meets
 rw [List.any_eq_true]
 exact ⟨x, ha, List.any_eq_true.2 ⟨x, hb, by simp⟩⟩
section sound
variable {P : Program} {n : Nat} {cx : Cx} {Q : U4} {l : List Oper} {sp : List Kd} {e0 : Xb} {L0 : List Chunk}
def od (l : List Oper) (k : Nat) : Oper := l.getD k default
def sd (sp : List Kd) (k : Nat) : Kd := sp.getD k .p
def EL (P : Program) (l : List Oper) (sp : List Kd) (e0 : Xb) (L0 : List Chunk) (S : Nat → Bool) (val : Nat → Value) : Nat → Xb × List Chunk
 | 0 => (e0, L0)
 | k + 1 =>
  let x := EL P l sp e0 L0 S val k
  if S k then (putD x.1 (od l k).dst (val k), if Xw l.toArray (od l k) x.1 = true then Vj x.2 ((sd sp k).T x.1 (look x.2) (val k)) else x.2) else x
structure Ok (n : Nat) (l : List Oper) (sp : List Kd) : Prop where
 len : l.length = sp.length
 nosel : Region.noSelect l.toArray = true
 back : ∀ k x, k < l.length → x ∈ (od l k).after.toList → Region.binds .any x = true → x.on < k
 dst : ∀ k d, k < l.length → (od l k).dst = some d → Nat.blt d n = true
 rs : ∀ k t, k < l.length → t ∈ (sd sp k).rs → t ∈ (od l k).looksAt l.toArray
 ord : ∀ k i, k < l.length → i < k → clash l.toArray (od l i) (od l k) (sd sp i) (sd sp k) = true → reach l 3 k i = true
theorem ok_of (h : checkD n l sp = true) : Ok n l sp := by
 unfold checkD at h
 simp only [Bool.and_eq_true, List.all_eq_true, List.mem_range] at h
 obtain ⟨⟨h1, h2⟩, h3⟩ := h
 have hlen : l.length = sp.length := by simpa using h1
 have key : ∀ k, k < l.length → l[k]? = some (od l k) ∧ sp[k]? = some (sd sp k) := by
  intro k hk
  have hk' : k < sp.length := by omega
  exact ⟨by simp [od, List.getD_eq_getElem?_getD, List.getElem?_eq_getElem hk], by simp [sd, List.getD_eq_getElem?_getD, List.getElem?_eq_getElem hk']⟩
 have h4 : ∀ k, k < l.length → _ := fun k hk => by
  have := h3 k hk
  rw [(key k hk).1, (key k hk).2] at this
  simp only [Bool.and_eq_true, List.all_eq_true, List.mem_range] at this
  exact this
 refine ⟨hlen, h2, ?_, ?_, ?_, ?_⟩
 ·intro k x hk hx hb
  have := (h4 k hk).1.1.1
  have := this x hx
  simpa [hb] using this
 ·intro k d hk hd
  have := (h4 k hk).1.1.2
  rw [hd] at this
  simpa using this
 ·intro k t hk ht
  have := (h4 k hk).1.2
  unfold subs at this
  rw [List.all_eq_true] at this
  obtain ⟨y, hy, hyt⟩ := List.any_eq_true.1 (this t ht)
  have : t = y := by simpa using hyt
  rw [this]; exact hy
 ·intro k i hk hi hc
  have := (h4 k hk).2 i hi
  rw [(key i (by omega)).1, (key i (by omega)).2] at this
  simpa [hc] using this
def Closed (l : List Oper) (S : Nat → Prop) (k : Nat) : Prop := ∀ x ∈ (od l k).after.toList, Region.binds .any x = true → S x.on
theorem reach_in (S : Nat → Prop) (hS : ∀ k, k < l.length → S k → Closed l S k) (hb : ∀ k x, k < l.length → x ∈ (od l k).after.toList → Region.binds .any x = true → x.on < k) :
  ∀ f k i, k < l.length → Closed l S k → reach l f k i = true → S i := by
 intro f
 induction f with
 | zero => intro k i _ _ h; simp [reach] at h
 | succ f ih =>
  intro k i hk hc h
  have hlk : l[k]? = some (od l k) := by simp [od, List.getD_eq_getElem?_getD, List.getElem?_eq_getElem hk]
  simp only [reach, hlk, Bool.or_eq_true] at h
  rcases h with h | h
  ·unfold binding at h
   rw [List.any_eq_true] at h
   obtain ⟨x, hx, hxb⟩ := h
   simp only [Bool.and_eq_true] at hxb
   have : x.on = i := by simpa using hxb.2
   rw [← this]
   exact hc x hx hxb.1
  ·rw [List.any_eq_true] at h
   obtain ⟨x, hx, hxb⟩ := h
   simp only [Bool.and_eq_true] at hxb
   have hlt := hb k x hk hx hxb.1
   exact ih x.on i (by omega) (hS x.on (by omega) (hc x hx hxb.1)) hxb.2
theorem setAll_length (T : List (Nat × Chunk)) : ∀ L : List Chunk, (Vj L T).length = L.length := by
 induction T with
 | nil => intro L; rfl
 | cons p T ih => intro L; obtain ⟨i, c⟩ := p; simp [Vj, ih]
theorem Vy (T : List (Nat × Chunk)) : ∀ (L : List Chunk) (i : Nat), (∀ p ∈ T, p.1 ≠ i) → (Vj L T)[i]? = L[i]? := by
 induction T with
 | nil => intro L i _; rfl
 | cons p T ih =>
  intro L i h
  obtain ⟨j, c⟩ := p
  simp only [Vj]
  rw [ih _ i (fun p hp => h p (List.mem_cons_of_mem _ hp)), List.getElem?_set_ne]
  exact h (j, c) (List.mem_cons_self ..)
theorem setAll_same (T : List (Nat × Chunk)) : ∀ (L L' : List Chunk) (i : Nat), L.length = L'.length → L[i]? = L'[i]? → (Vj L T)[i]? = (Vj L' T)[i]? := by
 induction T with
 | nil => intro L L' i _ h; exact h
 | cons p T ih =>
  intro L L' i hl h
  obtain ⟨j, c⟩ := p
  simp only [Vj]
  refine ih _ _ i (by simp [hl]) ?_
  by_cases hji : j = i
  ·subst hji
   rw [List.getElem?_set, List.getElem?_set, if_pos rfl, if_pos rfl, hl]
  ·rw [List.getElem?_set_ne hji, List.getElem?_set_ne hji, h]
theorem T_in (s : Kd) (e : Xb) (lk : Look) (v : Value) : ∀ p ∈ s.T e lk v, p.1 ∈ s.wrs := by
 intro p hp
 cases s with
 | p => simp [Kd.T] at hp
 | g rs rds wrs V T =>
  simp only [Kd.T] at hp
  exact (List.of_mem_zip (a := p.1) (b := p.2) hp).1
theorem T_loc (s : Kd) {e e' : Xb} {lk lk' : Look} (h1 : ∀ t ∈ s.rs, e t = e' t) (h2 : ∀ i ∈ s.rds, lk i = lk' i) (v : Value) : s.T e lk v = s.T e' lk' v := by
 cases s with
 | p => rfl
 | g rs rds wrs V T =>
  have h1' : rs.map e = rs.map e' := List.map_congr_left h1
  have h2' : rds.map lk = rds.map lk' := List.map_congr_left h2
  simp only [Kd.T, h1', h2']
theorem ev_loc {e e' : Xb} {o : Oper} (hs : ∀ cs b, o.op ≠ .select cs b) {ops : Array Oper} (h : ∀ t ∈ o.looksAt ops, e t = e' t) : execOp (ev e) o = execOp (ev e') o := by
 refine execOp_congr o hs fun x hx => ?_
 cases x with
 | tmp t => exact h t (List.mem_append_left _ (List.mem_filterMap.2 ⟨.tmp t, by simpa using hx, rfl⟩))
 | const v => rfl
 | global g => rfl
 | func f => rfl
theorem V_loc {o : Oper} (s : Kd) (hs : ∀ cs b, o.op ≠ .select cs b) {ops : Array Oper} {e e' : Xb} {lk lk' : Look} (h : ∀ t ∈ o.looksAt ops, e t = e' t) (h1 : ∀ t ∈ s.rs, e t = e' t) (h2 : ∀ i ∈ s.rds, lk i = lk' i) (v : Value) :
  s.V P o e lk v = s.V P o e' lk' v := by
 cases s with
 | p => simp only [Kd.V]; rw [ev_loc hs h]
 | g rs rds wrs V T =>
  have h1' : rs.map e = rs.map e' := List.map_congr_left h1
  have h2' : rds.map lk = rds.map lk' := List.map_congr_left h2
  simp only [Kd.V, h1', h2']
theorem V_locL {o : Oper} (s : Kd) (hs : ∀ cs b, o.op ≠ .select cs b) {ops : Array Oper} {e e' : Xb} {L L' : List Chunk} (h : ∀ t ∈ o.looksAt ops, e t = e' t) (h1 : ∀ t ∈ s.rs, e t = e' t) (h2 : ∀ i ∈ s.rds, L[i]? = L'[i]?) (v : Value) :
  s.V P o e (look L) v = s.V P o e' (look L') v := V_loc s hs h h1 h2 v
theorem want_loc {o : Oper} {ops : Array Oper} {e e' : Xb} (h : ∀ t ∈ o.looksAt ops, e t = e' t) : Xw ops o e = Xw ops o e' := by
 unfold Xw
 cases hg : o.guard with
 | none => rfl
 | some jb =>
  obtain ⟨j, b⟩ := jb
  simp only
  cases hd : (ops[j]?).bind (·.dst) with
  | none => rfl
  | some d =>
   have : e d = e' d := h d (by unfold Oper.looksAt; rw [hg]; exact List.mem_append_right _ (by simp [hd]))
   simp only [this]
theorem putD_same {e e' : Xb} {t : Nat} (d : Option Nat) (v : Value) (h : d ≠ some t → e t = e' t) : putD e d v t = putD e' d v t := by
 cases d with
 | none => exact h (by simp)
 | some d =>
  by_cases ht : t = d
  ·subst ht; simp [putD, upd_same]
  ·simp only [putD]; rw [upd_ne _ _ _ _ ht, upd_ne _ _ _ _ ht]; exact h (by simpa using fun h => ht h.symm)
theorem Jae {e : Xb} {t : Nat} {d : Option Nat} (v : Value) (h : d ≠ some t) : putD e d v t = e t := by
 cases d with
 | none => rfl
 | some d => simp only [putD]; exact upd_ne _ _ _ _ (by simpa using fun h' => h (by rw [h']))
theorem EL_length (S : Nat → Bool) (val : Nat → Value) : ∀ k, (EL P l sp e0 L0 S val k).2.length = L0.length := by
 intro k
 induction k with
 | zero => rfl
 | succ k ih =>
  simp only [EL]
  split
  ·split
   ·simp [setAll_length, ih]
   ·exact ih
  ·exact ih
theorem clash_dl {ops : Array Oper} {o1 o2 : Oper} {s1 s2 : Kd} {t : Nat} (h1 : o1.dst = some t) (h2 : t ∈ o2.looksAt ops) : clash ops o1 o2 s1 s2 = true := by
 unfold clash; rw [meets_of (a := o1.dst.toList) (x := t) (by simp [h1]) h2]; rfl
theorem clash_dd {ops : Array Oper} {o1 o2 : Oper} {s1 s2 : Kd} {t : Nat} (h1 : o1.dst = some t) (h2 : o2.dst = some t) : clash ops o1 o2 s1 s2 = true := by
 unfold clash; rw [meets_of (a := o1.dst.toList) (b := o2.dst.toList) (x := t) (by simp [h1]) (by simp [h2])]; simp
theorem clash_ld {ops : Array Oper} {o1 o2 : Oper} {s1 s2 : Kd} {t : Nat} (h1 : t ∈ o1.looksAt ops) (h2 : o2.dst = some t) : clash ops o1 o2 s1 s2 = true := by
 unfold clash; rw [meets_of (a := o2.dst.toList) (x := t) (by simp [h2]) h1]; simp
theorem clash_wr {ops : Array Oper} {o1 o2 : Oper} {s1 s2 : Kd} {i : Nat} (h1 : i ∈ s1.wrs) (h2 : i ∈ s2.rds ∨ i ∈ s2.wrs) : clash ops o1 o2 s1 s2 = true := by
 unfold clash
 rcases h2 with h2 | h2
 ·rw [meets_of h1 h2]; simp
 ·rw [meets_of (a := s1.wrs) (b := s2.wrs) h1 h2]; simp
theorem clash_rw {ops : Array Oper} {o1 o2 : Oper} {s1 s2 : Kd} {i : Nat} (h1 : i ∈ s1.rds ∨ i ∈ s1.wrs) (h2 : i ∈ s2.wrs) : clash ops o1 o2 s1 s2 = true := by
 unfold clash
 rcases h1 with h1 | h1
 ·rw [meets_of (a := s1.rds) (b := s2.wrs) h1 h2]; simp
 ·rw [meets_of (a := s1.wrs) (b := s2.wrs) h1 h2]; simp
theorem EL_agree (ok : Ok n l sp) {S S' : Nat → Bool} {val val' : Nat → Value} :
  ∀ k, k < l.length → (∀ i, i < k → reach l 3 k i = true → S i ∧ S' i ∧ val i = val' i) →
   (∀ i, i < k → S i → S' i → val i = val' i ∧
    ((∀ t ∈ (od l i).looksAt l.toArray, (EL P l sp e0 L0 S val i).1 t = (EL P l sp e0 L0 S' val' i).1 t) ∧
     (∀ r, r ∈ (sd sp i).rds ∨ r ∈ (sd sp i).wrs → (EL P l sp e0 L0 S val i).2[r]? = (EL P l sp e0 L0 S' val' i).2[r]?))) →
   ∀ j, j ≤ k → (∀ t ∈ (od l k).looksAt l.toArray, (EL P l sp e0 L0 S val j).1 t = (EL P l sp e0 L0 S' val' j).1 t) ∧
    (∀ r, r ∈ (sd sp k).rds ∨ r ∈ (sd sp k).wrs → (EL P l sp e0 L0 S val j).2[r]? = (EL P l sp e0 L0 S' val' j).2[r]?) := by
 intro k hk hcl hin j
 induction j with
 | zero => intro _; exact ⟨fun _ _ => rfl, fun _ _ => rfl⟩
 | succ j ih =>
  intro hj
  obtain ⟨ih1, ih2⟩ := ih (by omega)
  by_cases hb : S j ∧ S' j
  ·obtain ⟨hv, hl1, hl2⟩ := hin j (by omega) hb.1 hb.2
   have hw : Xw l.toArray (od l j) (EL P l sp e0 L0 S val j).1 = Xw l.toArray (od l j) (EL P l sp e0 L0 S' val' j).1 := want_loc hl1
   have hT : (sd sp j).T (EL P l sp e0 L0 S val j).1 (look (EL P l sp e0 L0 S val j).2) (val j) = (sd sp j).T (EL P l sp e0 L0 S' val' j).1 (look (EL P l sp e0 L0 S' val' j).2) (val' j) := by
    rw [hv]
    exact T_loc _ (fun t ht => hl1 t (ok.rs j t (by omega) ht)) (fun i hi => hl2 i (.inl hi)) _
   simp only [EL, if_pos hb.1, if_pos hb.2]
   refine ⟨fun t ht => ?_, fun r hr => ?_⟩
   ·rw [hv]; exact putD_same _ _ (fun _ => ih1 t ht)
   ·rw [hw, hT]
    split
    ·exact setAll_same _ _ _ r (by rw [EL_length, EL_length]) (ih2 r hr)
    ·exact ih2 r hr
  ·have hnr : ¬ reach l 3 k j = true := fun hr => hb ⟨(hcl j (by omega) hr).1, (hcl j (by omega) hr).2.1⟩
   have hnc : ¬ clash l.toArray (od l j) (od l k) (sd sp j) (sd sp k) = true := fun hc => hnr (ok.ord k j hk (by omega) hc)
   have one : ∀ (X : Nat → Bool) (va : Nat → Value), (∀ t ∈ (od l k).looksAt l.toArray, (EL P l sp e0 L0 X va (j + 1)).1 t = (EL P l sp e0 L0 X va j).1 t) ∧
     (∀ r, r ∈ (sd sp k).rds ∨ r ∈ (sd sp k).wrs → (EL P l sp e0 L0 X va (j + 1)).2[r]? = (EL P l sp e0 L0 X va j).2[r]?) := by
    intro X va
    simp only [EL]
    split
    ·refine ⟨fun t ht => ?_, fun r hr => ?_⟩
     ·exact Jae _ (fun hd => hnc (clash_dl hd ht))
     ·split
      ·exact Vy _ _ r (fun p hp hpr => hnc (clash_wr (by rw [← hpr]; exact T_in _ _ _ _ p hp) hr))
      ·rfl
    ·exact ⟨fun _ _ => rfl, fun _ _ => rfl⟩
   refine ⟨fun t ht => ?_, fun r hr => ?_⟩
   ·rw [(one S val).1 t ht, (one S' val').1 t ht]; exact ih1 t ht
   ·rw [(one S val).2 r hr, (one S' val').2 r hr]; exact ih2 r hr
def Sc (l : List Oper) (S : Nat → Bool) : Prop := ∀ k, k < l.length → S k = true → Closed l (fun i => S i = true) k
theorem Un (ok : Ok n l sp) {S : Nat → Bool} (hS : Sc l S) {k i : Nat} (hk : k < l.length) (hc : Closed l (fun i => S i = true) k) (h : reach l 3 k i = true) : S i = true :=
 reach_in (fun i => S i = true) (fun k hk h => hS k hk h) ok.back 3 k i hk hc h
theorem agree_all (ok : Ok n l sp) {S S' : Nat → Bool} {val val' : Nat → Value} (hS : Sc l S) (hS' : ∀ i, S i = true → S' i = true) (hv : ∀ i, S i = true → val i = val' i) :
  ∀ k, k < l.length → Closed l (fun i => S i = true) k → (∀ t ∈ (od l k).looksAt l.toArray, (EL P l sp e0 L0 S val k).1 t = (EL P l sp e0 L0 S' val' k).1 t) ∧
    (∀ r, r ∈ (sd sp k).rds ∨ r ∈ (sd sp k).wrs → (EL P l sp e0 L0 S val k).2[r]? = (EL P l sp e0 L0 S' val' k).2[r]?) := by
 intro k
 induction k using Nat.strongRecOn with
 | _ k ih =>
  intro hk hc
  exact EL_agree ok k hk (fun i hi hr => ⟨Un ok hS hk hc hr, hS' i (Un ok hS hk hc hr), hv i (Un ok hS hk hc hr)⟩)
   (fun i hi hs _ => ⟨hv i hs, ih i hi (by omega) (hS i (by omega) hs)⟩) k (Nat.le_refl _)
theorem EL_congr (S : Nat → Bool) {val val' : Nat → Value} : ∀ k, (∀ i, i < k → val i = val' i) → EL P l sp e0 L0 S val k = EL P l sp e0 L0 S val' k := by
 intro k
 induction k with
 | zero => intro _; rfl
 | succ k ih =>
  intro h
  simp only [EL]
  rw [ih (fun i hi => h i (by omega)), h k (by omega)]
def Cons (P : Program) (l : List Oper) (sp : List Kd) (e0 : Xb) (L0 : List Chunk) (S : Nat → Bool) (val : Nat → Value) (k : Nat) : Prop :=
 ∀ j, j < k → S j = true → if Xw l.toArray (od l j) (EL P l sp e0 L0 S val j).1 = true then (sd sp j).V P (od l j) (EL P l sp e0 L0 S val j).1 (look (EL P l sp e0 L0 S val j).2) (val j) else val j = undef
def full : Nat → Bool := fun _ => true
theorem drop_od {k : Nat} (hk : k < l.length) : l.drop k = od l k :: l.drop (k + 1) := by
 rw [List.drop_eq_getElem_cons hk]; simp [od, List.getD_eq_getElem?_getD, List.getElem?_eq_getElem hk]
theorem drop_sd {k : Nat} (hk : k < sp.length) : sp.drop k = sd sp k :: sp.drop (k + 1) := by
 rw [List.drop_eq_getElem_cons hk]; simp [sd, List.getD_eq_getElem?_getD, List.getElem?_eq_getElem hk]
theorem sq_at (ok : Ok n l sp) {F : Xb → List Chunk → Prop} (h : Sq P cx l.toArray F l sp e0 L0) : ∀ k, k ≤ l.length → ∀ val, Cons P l sp e0 L0 full val k →
  Sq P cx l.toArray F (l.drop k) (sp.drop k) (EL P l sp e0 L0 full val k).1 (EL P l sp e0 L0 full val k).2 := by
 intro k
 induction k with
 | zero => intro _ _ _; simpa [EL] using h
 | succ k ih =>
  intro hk val hc
  have h0 := ih (by omega) val (fun j hj => hc j (by omega))
  rw [drop_od (by omega), drop_sd (by have := ok.len; omega)] at h0
  have hck := hc k (by omega) rfl
  simp only [EL, full, if_true]
  cases h0 with
  | pass hw h1 =>
   rw [if_neg (by rw [hw]; simp)] at hck
   rw [if_neg (by rw [hw]; simp), hck]
   exact h1
  | take hw hi hl h1 =>
   rw [if_pos hw] at hck
   rw [if_pos hw]
   exact h1 _ hck
theorem fill (ok : Ok n l sp) {F : Xb → List Chunk → Prop} (h : Sq P cx l.toArray F l sp e0 L0) {S : Nat → Bool} {val : Nat → Value} (hS : Sc l S) (hc : Cons P l sp e0 L0 S val l.length) :
  ∀ k, k ≤ l.length → ∃ val', (∀ i, S i = true → val' i = val i) ∧ Cons P l sp e0 L0 full val' k := by
 intro k
 induction k with
 | zero => intro _; exact ⟨val, fun _ _ => rfl, fun j hj => by omega⟩
 | succ k ih =>
  intro hk
  obtain ⟨val', hv, hcf⟩ := ih (by omega)
  by_cases hSk : S k = true
  ·refine ⟨val', hv, fun j hj hf => ?_⟩
   by_cases hjk : j = k
   ·subst hjk
    have hj' := hc j (by omega) hSk
    obtain ⟨a1, a2⟩ := agree_all (P := P) (e0 := e0) (L0 := L0) ok (S' := full) (val' := val') hS (fun _ _ => rfl) (fun i hi => (hv i hi).symm) j (by omega) (hS j (by omega) hSk)
    rw [← want_loc (ops := l.toArray) a1, hv j hSk]
    split
    ·rename_i hw
     rw [if_pos hw] at hj'
     rw [← V_loc (lk := look (EL P l sp e0 L0 S val j).2) (lk' := look (EL P l sp e0 L0 full val' j).2) (sd sp j) (Region.noSelect_spec ok.nosel j _ · · (by simp [od, List.getD_eq_getElem?_getD, List.getElem?_eq_getElem (show j < l.length by omega)])) (ops := l.toArray) a1 (fun t ht => a1 t (ok.rs j t (by omega) ht)) (fun i hi => a2 i (.inl hi))]
     exact hj'
    ·rename_i hw
     rw [if_neg hw] at hj'
     exact hj'
   ·exact hcf j (by omega) hf
  ·have h0 := sq_at ok h k (by omega) val' hcf
   rw [drop_od (by omega), drop_sd (by have := ok.len; omega)] at h0
   have fin : ∀ v : Value, (if Xw l.toArray (od l k) (EL P l sp e0 L0 full val' k).1 = true then (sd sp k).V P (od l k) (EL P l sp e0 L0 full val' k).1 (look (EL P l sp e0 L0 full val' k).2) v else v = undef) →
     ∃ val'', (∀ i, S i = true → val'' i = val i) ∧ Cons P l sp e0 L0 full val'' (k + 1) := by
    intro v hvv
    refine ⟨fun i => if i = k then v else val' i, fun i hi => ?_, fun j hj hf => ?_⟩
    ·have : i ≠ k := fun e => hSk (by rw [← e]; exact hi)
     simp [this, hv i hi]
    ·have he : EL P l sp e0 L0 full (fun i => if i = k then v else val' i) j = EL P l sp e0 L0 full val' j := EL_congr full j (fun i hi => by
      have : i ≠ k := by omega
      simp [this])
     rw [he]
     by_cases hjk : j = k
     ·subst hjk
      simpa using hvv
     ·simp only [hjk, if_false]
      exact hcf j (by omega) hf
   cases h0 with
   | pass hw h1 => exact fin undef (by rw [if_neg (by rw [hw]; simp)])
   | take hw hi hl h1 =>
    obtain ⟨v, hv'⟩ := hi
    exact fin v (by rw [if_pos hw]; exact hv')
theorem tail_agree (ok : Ok n l sp) {S : Nat → Bool} {val : Nat → Value} (hS : Sc l S) {k : Nat} (hSk : S k = false) :
  ∀ j, k ≤ j → j ≤ l.length → (∀ t ∈ (od l k).looksAt l.toArray, (EL P l sp e0 L0 S val j).1 t = (EL P l sp e0 L0 S val k).1 t) ∧
    (∀ r, r ∈ (sd sp k).rds ∨ r ∈ (sd sp k).wrs → (EL P l sp e0 L0 S val j).2[r]? = (EL P l sp e0 L0 S val k).2[r]?) := by
 intro j hj
 obtain ⟨d, rfl⟩ := Nat.exists_eq_add_of_le hj
 clear hj
 induction d with
 | zero => intro _; exact ⟨fun _ _ => rfl, fun _ _ => rfl⟩
 | succ d ih =>
  intro hjl
  obtain ⟨a1, a2⟩ := ih (by omega)
  rw [show k + (d + 1) = (k + d) + 1 from rfl] at *
  generalize hjd : k + d = j at *
  have hj : k ≤ j := by omega
  simp only [EL]
  by_cases hSj : S j = true
  ·have hjk : k < j := by
    rcases Nat.lt_or_ge k j with h | h
    ·exact h
    ·have : j = k := by omega
     rw [this, hSk] at hSj; cases hSj
   have hnc : ¬ clash l.toArray (od l k) (od l j) (sd sp k) (sd sp j) = true := fun hc => by
    have := Un ok hS (by omega) (hS j (by omega) hSj) (ok.ord j k (by omega) hjk hc)
    rw [hSk] at this; cases this
   rw [if_pos hSj]
   refine ⟨fun t ht => ?_, fun r hr => ?_⟩
   ·rw [← a1 t ht]
    exact Jae _ (fun hd => hnc (clash_ld ht hd))
   ·rw [← a2 r hr]
    show (if _ then _ else _)[r]? = _
    split
    ·exact Vy _ _ r (fun p hp hpr => hnc (clash_rw hr (by rw [← hpr]; exact T_in _ _ _ _ p hp)))
    ·rfl
  ·rw [if_neg hSj]
   exact ⟨a1, a2⟩
theorem putD_comm {e : Xb} {d1 d2 : Option Nat} {v1 v2 : Value} (h : ∀ t, d1 = some t → d2 ≠ some t) : putD (putD e d1 v1) d2 v2 = putD (putD e d2 v2) d1 v1 := by
 funext t
 by_cases h1 : d1 = some t
 ·have h2 := h t h1
  subst h1
  rw [Jae _ h2]
  exact putD_same _ _ (fun hh => absurd rfl hh)
 ·rw [Jae (d := d1) _ h1]
  exact putD_same _ _ (fun _ => Jae _ h1)
theorem setAll_comm (A B : List (Nat × Chunk)) (L : List Chunk) (h : ∀ p ∈ A, ∀ q ∈ B, p.1 ≠ q.1) : Vj (Vj L A) B = Vj (Vj L B) A := by
 apply List.ext_getElem?
 intro i
 by_cases hA : ∃ p ∈ A, p.1 = i
 ·obtain ⟨p, hp, hpi⟩ := hA
  rw [Vy B _ i (fun q hq hqi => h p hp q hq (by omega))]
  exact setAll_same A _ _ i (by simp [setAll_length]) (Vy B _ i (fun q hq hqi => h p hp q hq (by omega))).symm
 ·have hA' : ∀ p ∈ A, p.1 ≠ i := fun p hp hpi => hA ⟨p, hp, hpi⟩
  rw [Vy A _ i hA']
  exact setAll_same B _ _ i (by simp [setAll_length]) (Vy A _ i hA')
def V7 (S : Nat → Bool) (k : Nat) : Nat → Bool := fun i => if i = k then true else S i
def val1 (val : Nat → Value) (k : Nat) (v : Value) : Nat → Value := fun i => if i = k then v else val i
theorem EL_below (S : Nat → Bool) (val : Nat → Value) (k : Nat) (v : Value) : ∀ j, j ≤ k → EL P l sp e0 L0 (V7 S k) (val1 val k v) j = EL P l sp e0 L0 S val j := by
 intro j
 induction j with
 | zero => intro _; rfl
 | succ j ih =>
  intro hj
  have hjk : j ≠ k := by omega
  simp only [EL, ih (by omega), V7, val1, hjk, if_false]
theorem EL_step (ok : Ok n l sp) {S : Nat → Bool} {val : Nat → Value} (hS : Sc l S) {k : Nat} (hSk : S k = false) (v : Value) :
  ∀ j, k + 1 ≤ j → j ≤ l.length → EL P l sp e0 L0 (V7 S k) (val1 val k v) j =
   (putD (EL P l sp e0 L0 S val j).1 (od l k).dst v, if Xw l.toArray (od l k) (EL P l sp e0 L0 S val k).1 = true then Vj (EL P l sp e0 L0 S val j).2 ((sd sp k).T (EL P l sp e0 L0 S val k).1 (look (EL P l sp e0 L0 S val k).2) v) else (EL P l sp e0 L0 S val j).2) := by
 intro j hj
 obtain ⟨d, rfl⟩ := Nat.exists_eq_add_of_le hj
 clear hj
 induction d with
 | zero =>
  intro _
  have h1 : EL P l sp e0 L0 (V7 S k) (val1 val k v) (k + 1) = _ := rfl
  rw [h1]
  simp only [EL, EL_below S val k v k (Nat.le_refl _), V7, val1, if_true, hSk]
  rfl
 | succ d ih =>
  intro hjl
  have ih := ih (by omega)
  rw [show k + 1 + (d + 1) = (k + 1 + d) + 1 from rfl] at *
  generalize hjd : k + 1 + d = j at *
  have hjk : j ≠ k := by omega
  by_cases hSj : S j = true
  ·have hnc : ¬ clash l.toArray (od l k) (od l j) (sd sp k) (sd sp j) = true := fun hc => by
    have := Un ok hS (by omega) (hS j (by omega) hSj) (ok.ord j k (by omega) (by omega) hc)
    rw [hSk] at this; cases this
   have e1 : ∀ t ∈ (od l j).looksAt l.toArray, putD (EL P l sp e0 L0 S val j).1 (od l k).dst v t = (EL P l sp e0 L0 S val j).1 t :=
    fun t ht => Jae _ (fun hd => hnc (clash_dl hd ht))
   have e2 : ∀ r, r ∈ (sd sp j).rds ∨ r ∈ (sd sp j).wrs → (if Xw l.toArray (od l k) (EL P l sp e0 L0 S val k).1 = true then Vj (EL P l sp e0 L0 S val j).2 ((sd sp k).T (EL P l sp e0 L0 S val k).1 (look (EL P l sp e0 L0 S val k).2) v) else (EL P l sp e0 L0 S val j).2)[r]? = (EL P l sp e0 L0 S val j).2[r]? := by
    intro r hr
    split
    ·exact Vy _ _ r (fun p hp hpr => hnc (clash_wr (by rw [← hpr]; exact T_in _ _ _ _ p hp) hr))
    ·rfl
   have hT := T_loc (sd sp j) (e := putD (EL P l sp e0 L0 S val j).1 (od l k).dst v) (e' := (EL P l sp e0 L0 S val j).1)
    (lk := look (if Xw l.toArray (od l k) (EL P l sp e0 L0 S val k).1 = true then Vj (EL P l sp e0 L0 S val j).2 ((sd sp k).T (EL P l sp e0 L0 S val k).1 (look (EL P l sp e0 L0 S val k).2) v) else (EL P l sp e0 L0 S val j).2)) (lk' := look (EL P l sp e0 L0 S val j).2)
    (fun t ht => e1 t (ok.rs j t (by omega) ht)) (fun i hi => e2 i (.inl hi)) (val j)
   have hw := want_loc (ops := l.toArray) e1
   have h1 : EL P l sp e0 L0 (V7 S k) (val1 val k v) (j + 1) = (putD (EL P l sp e0 L0 (V7 S k) (val1 val k v) j).1 (od l j).dst (val j), if Xw l.toArray (od l j) (EL P l sp e0 L0 (V7 S k) (val1 val k v) j).1 = true then Vj (EL P l sp e0 L0 (V7 S k) (val1 val k v) j).2 ((sd sp j).T (EL P l sp e0 L0 (V7 S k) (val1 val k v) j).1 (look (EL P l sp e0 L0 (V7 S k) (val1 val k v) j).2) (val j)) else (EL P l sp e0 L0 (V7 S k) (val1 val k v) j).2) := by
    simp [EL, V7, val1, hjk, hSj]
   have h2 : EL P l sp e0 L0 S val (j + 1) = (putD (EL P l sp e0 L0 S val j).1 (od l j).dst (val j), if Xw l.toArray (od l j) (EL P l sp e0 L0 S val j).1 = true then Vj (EL P l sp e0 L0 S val j).2 ((sd sp j).T (EL P l sp e0 L0 S val j).1 (look (EL P l sp e0 L0 S val j).2) (val j)) else (EL P l sp e0 L0 S val j).2) := by
    simp [EL, hSj]
   rw [h1, h2, ih]
   simp only
   rw [hw, hT]
   refine Prod.ext ?_ ?_
   ·exact putD_comm (fun t ht1 ht2 => hnc (clash_dd ht1 ht2))
   ·show (if _ then _ else _) = (if _ then _ else _)
    by_cases hwj : Xw l.toArray (od l j) (EL P l sp e0 L0 S val j).1 = true <;> by_cases hwk : Xw l.toArray (od l k) (EL P l sp e0 L0 S val k).1 = true
    ·simp only [hwj, hwk, if_true]
     exact setAll_comm _ _ _ (fun p hp q hq hpq => hnc (clash_wr (T_in _ _ _ _ p hp) (.inr (by rw [hpq]; exact T_in _ _ _ _ q hq))))
    ·simp only [hwj, hwk, if_true]; rfl
    ·simp only [hwj, hwk, if_true]; rfl
    ·simp only [hwj, hwk]; rfl
  ·have h1 : EL P l sp e0 L0 (V7 S k) (val1 val k v) (j + 1) = EL P l sp e0 L0 (V7 S k) (val1 val k v) j := by
    simp [EL, V7, hjk, hSj]
   have h2 : EL P l sp e0 L0 S val (j + 1) = EL P l sp e0 L0 S val j := by simp [EL, hSj]
   rw [h1, h2, ih]
def Q1 (listed : Array Bool) : Nat → Bool := fun k => listed.getD k false
theorem cons_step (ok : Ok n l sp) {S : Nat → Bool} {val : Nat → Value} (hS : Sc l S) {k : Nat} (hk : k < l.length) (hSk : S k = false) (hc : Cons P l sp e0 L0 S val l.length) {v : Value}
  (hv : if Xw l.toArray (od l k) (EL P l sp e0 L0 S val k).1 = true then (sd sp k).V P (od l k) (EL P l sp e0 L0 S val k).1 (look (EL P l sp e0 L0 S val k).2) v else v = undef) :
  Cons P l sp e0 L0 (V7 S k) (val1 val k v) l.length := by
 intro j hj hSj
 by_cases hjk : j = k
 ·subst hjk
  rw [EL_below S val j v j (Nat.le_refl _)]
  simpa [val1] using hv
 ·have hSj' : S j = true := by simpa [V7, hjk] using hSj
  have hcj := hc j hj hSj'
  have hval : val1 val k v j = val j := by simp [val1, hjk]
  rw [hval]
  by_cases hlt : j < k
  ·rw [EL_below S val k v j (by omega)]
   exact hcj
  ·have hkj : k < j := by omega
   have hnc : ¬ clash l.toArray (od l k) (od l j) (sd sp k) (sd sp j) = true := fun hh => by
    have := Un ok hS hj (hS j hj hSj') (ok.ord j k hj hkj hh)
    rw [hSk] at this; cases this
   rw [EL_step ok hS hSk v j (by omega) (by omega)]
   have e1 : ∀ t ∈ (od l j).looksAt l.toArray, putD (EL P l sp e0 L0 S val j).1 (od l k).dst v t = (EL P l sp e0 L0 S val j).1 t :=
    fun t ht => Jae _ (fun hd => hnc (clash_dl hd ht))
   have e2 : ∀ r, r ∈ (sd sp j).rds ∨ r ∈ (sd sp j).wrs → (if Xw l.toArray (od l k) (EL P l sp e0 L0 S val k).1 = true then Vj (EL P l sp e0 L0 S val j).2 ((sd sp k).T (EL P l sp e0 L0 S val k).1 (look (EL P l sp e0 L0 S val k).2) v) else (EL P l sp e0 L0 S val j).2)[r]? = (EL P l sp e0 L0 S val j).2[r]? := by
    intro r hr
    split
    ·exact Vy _ _ r (fun p hp hpr => hnc (clash_wr (by rw [← hpr]; exact T_in _ _ _ _ p hp) hr))
    ·rfl
   simp only
   rw [want_loc (ops := l.toArray) e1]
   split
   ·rename_i hw
    rw [if_pos hw] at hcj
    rw [V_locL (L' := (EL P l sp e0 L0 S val j).2) (sd sp j) (Region.noSelect_spec ok.nosel j _ · · (by simp [od, List.getD_eq_getElem?_getD, List.getElem?_eq_getElem hj])) (ops := l.toArray) e1 (fun t ht => e1 t (ok.rs j t hj ht)) (fun i hi => e2 i (.inl hi))]
    exact hcj
   ·rename_i hw
    rw [if_neg hw] at hcj
    exact hcj
theorem ready_mem {md : Region.Mode} {ops : Array Oper} {listed : Array Bool} {k : Nat} (h : k ∈ Region.ready md ops listed) :
  k < ops.size ∧ listed.getD k true = false ∧ ∃ o, ops[k]? = some o ∧ ∀ x ∈ o.after.toList, Region.binds md x = true → listed.getD x.on false = true := by
 unfold Region.ready at h
 rw [List.mem_filter] at h
 obtain ⟨h1, h2⟩ := h
 rw [List.mem_range] at h1
 simp only [Bool.and_eq_true, Bool.not_eq_true'] at h2
 obtain ⟨h2, h3⟩ := h2
 refine ⟨h1, h2, ops[k], Array.getElem?_eq_getElem h1, fun x hx hb => ?_⟩
 rw [Array.getElem?_eq_getElem h1] at h3
 simp only [Option.map_some, Option.getD_some] at h3
 have := Array.all_eq_true_iff_forall_mem.1 h3 x (by simpa using hx)
 simpa [hb] using this
theorem any_of (ok : Ok n l sp) (h : Sq P cx l.toArray (fun e L => At cx (Q .normal) e L) l sp e0 L0) : ∀ (fuel : Nat) (listed : Array Bool) (a : Act) (w : World) (val : Nat → Value), listed.size = l.length →
  Sc l (Q1 listed) → Cons P l sp e0 L0 (Q1 listed) val l.length →
  ((List.range l.length).filter fun k => !Q1 listed k).length ≤ fuel →
  Sim n a (EL P l sp e0 L0 (Q1 listed) val l.length).1 → Fr cx w → Sat cx w (EL P l sp e0 L0 (Q1 listed) val l.length).2 →
  wpAny P .any l.toArray (lift n Q) fuel listed a w := by
 have final : ∀ (listed : Array Bool) (a : Act) (w : World) (val : Nat → Value), (∀ k, k < l.length → Q1 listed k = true) → Cons P l sp e0 L0 (Q1 listed) val l.length →
   Sim n a (EL P l sp e0 L0 (Q1 listed) val l.length).1 → Fr cx w → Sat cx w (EL P l sp e0 L0 (Q1 listed) val l.length).2 → lift n Q .normal a w := by
  intro listed a w val hall hc hs hF hS
  have he : ∀ k, k ≤ l.length → EL P l sp e0 L0 (Q1 listed) val k = EL P l sp e0 L0 full val k := by
   intro k
   induction k with
   | zero => intro _; rfl
   | succ k ih => intro hk; simp only [EL, ih (by omega), hall k (by omega), full]
  have hcf : Cons P l sp e0 L0 full val l.length := fun j hj hf => by
   have := hc j hj (hall j hj)
   rwa [he j (by omega)] at this
  have h0 := sq_at ok h l.length (Nat.le_refl _) val hcf
  rw [List.drop_length, ok.len, List.drop_length, ← ok.len] at h0
  cases h0 with
  | nil hh =>
   rw [← he _ (Nat.le_refl _)] at hh
   exact ⟨_, hs, hh.out w hF hS⟩
 have ready_all : ∀ (listed : Array Bool), listed.size = l.length → Region.ready .any l.toArray listed = [] → ∀ k, k < l.length → Q1 listed k = true := by
  intro listed hsz hr k
  induction k using Nat.strongRecOn with
  | _ k ih =>
   intro hk
   rcases Bool.eq_false_or_eq_true (Q1 listed k) with hh | hh
   ·exact hh
   ·exfalso
    have : k ∈ Region.ready .any l.toArray listed := by
     unfold Region.ready
     rw [List.mem_filter]
     refine ⟨by simpa using hk, ?_⟩
     have hg : listed.getD k true = false := by
      have hh' : listed.getD k false = false := hh
      rw [Array.getD_eq_getD_getElem?, Array.getElem?_eq_getElem (by omega)] at hh' ⊢
      simpa using hh'
     have hok : l.toArray[k]? = some (od l k) := by simp [od, List.getD_eq_getElem?_getD, List.getElem?_eq_getElem hk]
     simp only [hg, Bool.not_false, Bool.true_and, hok, Option.map_some, Option.getD_some]
     rw [Array.all_eq_true_iff_forall_mem]
     intro x hx
     by_cases hb : Region.binds .any x = true
     ·have hlt := ok.back k x hk (by simpa using hx) hb
      have := ih x.on hlt (by omega)
      simp only [hb, Bool.not_true, Bool.false_or]
      exact this
     ·simp only [Bool.not_eq_true] at hb
      simp [hb]
    rw [hr] at this
    cases this
 intro fuel
 induction fuel with
 | zero =>
  intro listed a w val hsz hSc hc hcount hs hF hS
  have hall : ∀ k, k < l.length → Q1 listed k = true := by
   intro k hk
   have h0 : (List.range l.length).filter (fun k => !Q1 listed k) = [] := List.eq_nil_of_length_eq_zero (by omega)
   rw [List.filter_eq_nil_iff] at h0
   simpa using h0 k (by simpa using hk)
  refine ⟨?_, final listed a w val hall hc hs hF hS⟩
  cases hr : Region.ready .any l.toArray listed with
  | nil => rfl
  | cons x xs =>
   exfalso
   obtain ⟨h1, h2, _⟩ := ready_mem (md := .any) (ops := l.toArray) (listed := listed) (k := x) (by rw [hr]; simp)
   have h1' : x < l.length := by simpa using h1
   have := hall x h1'
   unfold Q1 at this
   rw [Array.getD_eq_getD_getElem?, Array.getElem?_eq_getElem (by omega)] at this h2
   simp at this h2
   rw [this] at h2
   cases h2
 | succ fuel ih =>
  intro listed a w val hsz hSc hc hcount hs hF hS
  refine ⟨fun hr => final listed a w val (ready_all listed hsz hr) hc hs hF hS, fun k hk => ?_⟩
  obtain ⟨h1, h2, o, ho, hafter⟩ := ready_mem hk
  have hkl : k < l.length := by simpa using h1
  have hoe : o = od l k := by
   have : l[k]? = some o := by simpa using ho
   simp [od, List.getD_eq_getElem?_getD, this]
  subst hoe
  have hSk : Q1 listed k = false := by
   unfold Q1
   rw [Array.getD_eq_getD_getElem?, Array.getElem?_eq_getElem (by omega)] at h2 ⊢
   simpa using h2
  have hclk : Closed l (fun i => Q1 listed i = true) k := fun x hx hb => hafter x hx hb
  obtain ⟨val', hv, hcf⟩ := fill ok h hSc hc k (by omega)
  have h0 := sq_at ok h k (by omega) val' hcf
  rw [drop_od hkl, drop_sd (by have := ok.len; omega)] at h0
  obtain ⟨a1, a2⟩ := agree_all (P := P) (e0 := e0) (L0 := L0) ok (S' := full) (val' := val') hSc (fun _ _ => rfl) (fun i hi => (hv i hi).symm) k hkl hclk
  obtain ⟨b1, b2⟩ := tail_agree (P := P) (e0 := e0) (L0 := L0) (val := val) ok hSc hSk l.length (by omega) (Nat.le_refl _)
  have hsel : ∀ cs b, (od l k).op ≠ .select cs b := (Region.noSelect_spec ok.nosel k _ · · (by simpa using ho))
  have hSn : Q1 (listed.setIfInBounds k true) = V7 (Q1 listed) k := by
   funext i
   unfold Q1 V7
   simp only [Array.getD_eq_getD_getElem?, Array.getElem?_setIfInBounds]
   by_cases hik : i = k
   ·subst hik; simp [show i < listed.size by omega]
   ·have : ¬ k = i := fun e => hik e.symm
    simp [hik, this]
  have hScn : Sc l (V7 (Q1 listed) k) := by
   intro j hj hSj x hx hb
   by_cases hjk : j = k
   ·subst hjk
    have := hclk x hx hb
    simp only [V7]
    split
    ·rfl
    ·exact this
   ·have hSj' : Q1 listed j = true := by simpa [V7, hjk] using hSj
    have := hSc j hj hSj' x hx hb
    simp only [V7]
    split
    ·rfl
    ·exact this
  have hcnt : ((List.range l.length).filter fun i => !V7 (Q1 listed) k i).length ≤ fuel := by
   have hsub : ((List.range l.length).filter fun i => !V7 (Q1 listed) k i).length < ((List.range l.length).filter fun i => !Q1 listed i).length := by
    have e1 : (List.range l.length).filter (fun i => !V7 (Q1 listed) k i) = ((List.range l.length).filter fun i => !Q1 listed i).filter fun i => decide (i ≠ k) := by
     rw [List.filter_filter]
     apply List.filter_congr
     intro i _
     unfold V7
     by_cases hik : i = k <;> simp [hik]
    rw [e1]
    refine List.length_filter_lt_length_iff_exists.2 ⟨k, ?_, by simp⟩
    rw [List.mem_filter]
    exact ⟨by simpa using hkl, by simp [hSk]⟩
   omega
  have hwa : Xw l.toArray (od l k) (EL P l sp e0 L0 (Q1 listed) val l.length).1 = Xw l.toArray (od l k) (EL P l sp e0 L0 full val' k).1 := (want_loc b1).trans (want_loc a1)
  have hwk : Xw l.toArray (od l k) (EL P l sp e0 L0 (Q1 listed) val k).1 = Xw l.toArray (od l k) (EL P l sp e0 L0 full val' k).1 := want_loc a1
  have next : ∀ (v : Value) (a' : Act) (w' : World), (if Xw l.toArray (od l k) (EL P l sp e0 L0 full val' k).1 = true then (sd sp k).V P (od l k) (EL P l sp e0 L0 full val' k).1 (look (EL P l sp e0 L0 full val' k).2) v else v = undef) →
    Sim n a' (putD (EL P l sp e0 L0 (Q1 listed) val l.length).1 (od l k).dst v) → Fr cx w' →
    Sat cx w' (if Xw l.toArray (od l k) (EL P l sp e0 L0 full val' k).1 = true then Vj (EL P l sp e0 L0 (Q1 listed) val l.length).2 ((sd sp k).T (EL P l sp e0 L0 full val' k).1 (look (EL P l sp e0 L0 full val' k).2) v) else (EL P l sp e0 L0 (Q1 listed) val l.length).2) →
    wpAny P .any l.toArray (lift n Q) fuel (listed.setIfInBounds k true) a' w' := by
   intro v a' w' hvv hs' hF' hS'
   have hstep := EL_step (P := P) (e0 := e0) (L0 := L0) ok hSc hSk v (val := val) l.length (by omega) (Nat.le_refl _)
   have hT : (sd sp k).T (EL P l sp e0 L0 (Q1 listed) val k).1 (look (EL P l sp e0 L0 (Q1 listed) val k).2) v = (sd sp k).T (EL P l sp e0 L0 full val' k).1 (look (EL P l sp e0 L0 full val' k).2) v :=
    T_loc _ (fun t ht => a1 t (ok.rs k t hkl ht)) (fun i hi => a2 i (.inl hi)) v
   refine ih (listed.setIfInBounds k true) a' w' (val1 val k v) (by simpa using hsz) (by rw [hSn]; exact hScn) ?_ (by rw [hSn]; exact hcnt) ?_ hF' ?_
   ·rw [hSn]
    refine cons_step ok hSc hkl hSk hc ?_
    rw [hwk]
    split
    ·rename_i hw
     rw [if_pos hw] at hvv
     rw [V_locL (L' := (EL P l sp e0 L0 full val' k).2) (sd sp k) hsel (ops := l.toArray) a1 (fun t ht => a1 t (ok.rs k t hkl ht)) (fun i hi => a2 i (.inl hi))]
     exact hvv
    ·rename_i hw
     rw [if_neg hw] at hvv
     exact hvv
   ·rw [hSn, hstep]; exact hs'
   ·rw [hSn, hstep]
    simp only
    rw [hwk, hT]
    exact hS'
  unfold wpOp
  rw [ho]
  simp only
  rw [want_eq hs, hwa]
  cases h0 with
  | pass hw h3 =>
   rw [hw]
   simp only [Bool.false_eq_true, if_false]
   refine next undef _ w (by rw [if_neg (by rw [hw]; simp)]) ?_ hF (by rw [if_neg (by rw [hw]; simp)]; exact hS)
   cases hd : (od l k).dst with
   | none => exact hs
   | some d => exact hs.put (ok.dst k d hkl hd) undef
  | take hw hi hl h3 =>
   rw [hw, if_pos rfl]
   refine .inl ?_
   have hr := hl.out w _ hF hS (by rw [EL_length, EL_length]) (fun i hi => (b2 i hi).trans (a2 i hi))
   have hev : execOp (ev (EL P l sp e0 L0 full val' k).1) (od l k) = execOp (ev (EL P l sp e0 L0 (Q1 listed) val l.length).1) (od l k) :=
    ev_loc hsel (ops := l.toArray) (fun t ht => ((b1 t ht).trans (a1 t ht)).symm)
   unfold RunsTo at hr
   rw [hev] at hr
   unfold Oper.wp
   rw [hs.ev]
   have put : ∀ v : Value, Sim n (a.put (od l k).dst v) (putD (EL P l sp e0 L0 (Q1 listed) val l.length).1 (od l k).dst v) := by
    intro v
    cases hd : (od l k).dst with
    | none => exact hs
    | some d => exact hs.put (ok.dst k d hkl hd) v
   have go : ∀ v w', (sd sp k).V P (od l k) (EL P l sp e0 L0 full val' k).1 (look (EL P l sp e0 L0 full val' k).2) v ∧ Fr cx w' ∧ Sat cx w' (Vj (EL P l sp e0 L0 (Q1 listed) val l.length).2 ((sd sp k).T (EL P l sp e0 L0 full val' k).1 (look (EL P l sp e0 L0 full val' k).2) v)) →
     wpAny P .any l.toArray (lift n Q) fuel (listed.setIfInBounds k true) (a.put (od l k).dst v) w' :=
    fun v w' ⟨g1, g2, g3⟩ => next v _ w' (by rw [if_pos hw]; exact g1) (put v) g2 (by rw [if_pos hw]; exact g3)
   generalize (execOp (ev (EL P l sp e0 L0 (Q1 listed) val l.length).1) (od l k)).run P w = r at *
   cases r with
   | halt x w' => exact hr.elim
   | ok nx w' =>
    cases nx with
    | value v => exact go v w' hr
    | skip => exact go undef w' hr
    | enter f args =>
     show Calls P f args w' _
     refine Calls.mono hr ?_
     rintro en w'' ⟨v, rfl, hk'⟩
     exact go v w'' hk'
    | _ => exact hr.elim
theorem EL_none (S : Nat → Bool) (h : ∀ k, S k = false) (val : Nat → Value) : ∀ k, EL P l sp e0 L0 S val k = (e0, L0) := by
 intro k
 induction k with
 | zero => rfl
 | succ k ih => simp only [EL, h k]; exact ih
end sound
def empC : Chunk := ⟨fun S _ => ∀ b, ¬ S b, fun _ _ _ _ h => h⟩
theorem Sat.emp {cx : Cx} {w : World} {L : List Chunk} (h : Sat cx w L) (hF : Fr cx w) : Sat cx w (L ++ [empC]) :=
 h.snoc hF (Grow.refl w) (S := fun _ => False) (fun _ h => h) (fun _ h => h.elim)
theorem Sat.pad {cx : Cx} {w : World} (hF : Fr cx w) : ∀ (k : Nat) {L : List Chunk}, Sat cx w L → Sat cx w (L ++ List.replicate k empC)
 | 0, L, h => by simpa using h
 | k + 1, L, h => by
  have := Sat.pad hF k (h.emp hF)
  rwa [List.append_assoc, List.singleton_append, ← List.replicate_succ] at this
theorem Qi {P : Program} {n : Nat} {cx : Cx} {Q : U4} {e : Xb} {L : List Chunk} {id : Nat} {l : List Oper} (sp : List Kd) (k : Nat) (hm : P.follows .mixedOrders = true)
  (h : Sq P cx l.toArray (fun e L => At cx (Q .normal) e L) l sp e (L ++ List.replicate k empC)) (hB : checkD n l sp = true) : At cx (WC P n (.region id l.toArray true) Q) e L :=
 ⟨fun w hF hS => ⟨fun a ha => by
  have ok := ok_of hB
  have hno : ∀ i, Q1 (Array.replicate l.toArray.size false) i = false := by
   intro i
   simp only [Q1, Array.getD_eq_getD_getElem?, Array.getElem?_replicate]
   split <;> rfl
  refine wp_region_any hm (any_of ok h l.toArray.size (Array.replicate l.toArray.size false) a _ (fun _ => undef) (by simp) (fun k _ hk => by rw [hno k] at hk; cases hk) (fun j _ hj => by rw [hno j] at hj; cases hj) ?_ ?_ ⟨hF.os, hF.tape, hF.output, hF.size, hF.block⟩ ?_)
  ·exact Nat.le_trans (List.length_filter_le _ _) (by simp)
  ·rw [EL_none _ hno]; exact ha
  ·rw [EL_none _ hno]
   have hg : Grow w { w with drawn := w.drawn + 1 } := ⟨rfl, rfl, rfl, Nat.le_refl _, fun _ _ => rfl⟩
   exact (hS.pad hF k).grow hg⟩⟩
end Go.Vc

/- The rules for single operations of a region that draws its order. Conditions: none. -/
namespace Go.Vc
open Go
def boxOf (v : Value) (cs : List Value) (T : TypeId) : Chunk :=
 match v with
 | .pointer (some a) => Jg a.block cs T
 | .slice (some a) _ _ => Jg a.block cs T
 | _ => empC
def isPtr (v : Value) : Prop := ∃ b, v = .pointer (some ⟨b, 0, none⟩)
def Kd.nw (i : Nat) (cs : List Value) (T : TypeId) : Kd := .g [] [] [i] (fun _ _ v => isPtr v) (fun _ _ v => [boxOf v cs T])
def Kd.ns (i : Nat) (cs : List Value) (T m : Nat) : Kd := .g [] [] [i] (fun _ _ v => ∃ b, v = .slice (some ⟨b, 0, none⟩) m m) (fun _ _ v => [boxOf v cs T])
def Kd.st (a i : Nat) (cs : List Value) (T : TypeId) : Kd := .g [a] [i] [i] (fun _ _ v => v = undef) (fun vs _ _ => [boxOf (vs.headD undef) cs T])
section rules
variable {P : Program} {n : Nat} {cx : Cx} {Q : U4} {e : Xb} {L : List Chunk} {ops : Array Oper} {F : Xb → List Chunk → Prop} {rest : List Oper} {ss : List Kd}
theorem d_pass {o : Oper} {s : Kd} {d : Nat} (hw : Xw ops o e = false) (hd : o.dst = some d) (k : Sq P cx ops F rest ss (upd e d undef) L) : Sq P cx ops F (o :: rest) (s :: ss) e L :=
 .pass hw (by rw [hd]; exact k)
theorem Qq {o : Oper} {d : Nat} {v : Value} (hw : Xw ops o e = true) (hd : o.dst = some d) (hr : ∀ w, (execOp (ev e) o).run P w = .ok (.value v) w)
  (k : Sq P cx ops F rest ss (upd e d v) L) : Sq P cx ops F (o :: rest) (.p :: ss) e L := by
 refine .take hw ⟨v, hr⟩ ⟨fun w L' hF hS _ _ => ?_⟩ fun v' hv' => ?_
 ·unfold RunsTo
  rw [hr]
  exact ⟨hr, hF, hS⟩
 ·have h1 := hv' default
  rw [hr] at h1
  have : v = v' := by simpa using h1
  subst this
  rw [hd]
  exact k
theorem d_det {o : Oper} {d : Nat} {v : Value} {rds : List Nat} (hw : Xw ops o e = true) (hd : o.dst = some d)
  (h : ∀ w L', Fr cx w → Sat cx w L' → (∀ i ∈ rds, L'[i]? = L[i]?) → RunsTo P (ev e) o w fun v' w' => v' = v ∧ Grow w w')
  (k : Sq P cx ops F rest ss (upd e d v) L) : Sq P cx ops F (o :: rest) (.d rds v :: ss) e L := by
 refine .take hw ⟨v, rfl⟩ ⟨fun w L' hF hS _ hi => ?_⟩ fun v' hv' => ?_
 ·refine (h w L' hF hS fun i hm => hi i (.inl hm)).mono fun v' w' ⟨h1, h2⟩ => ?_
  exact ⟨h1, hF.grow h2, hS.grow h2⟩
 ·have : v' = v := hv'
  subst this
  rw [hd]
  exact k
variable {d : Nat} {ty : TypeId} {pos : String} {af : Array Edge} {g : Option (Nat × Bool)}
theorem d_load1 {i : Nat} {T T0 b o : Nat} {A : Operand} {cs : List Value} {v : Value} (hA : ∀ w, (isAgg T).run P w = .ok false w)
  (hw : Xw ops ⟨some d, .load T A, ty, pos, af, g⟩ e = true) (hp : ev e A = .pointer (some ⟨b, o, none⟩)) (hL : L[i]? = some (Jg b cs T0)) (hv : rg cs o = some v)
  (k : Sq P cx ops F rest ss (upd e d v) L) : Sq P cx ops F (⟨some d, .load T A, ty, pos, af, g⟩ :: rest) (.d [i] v :: ss) e L :=
 d_det hw rfl (fun w L' hF hS hi => by
  have hc := cell_of (o := o) (Q8 hS ((hi i (by simp)).trans hL))
  rw [← rg_eq, hv] at hc
  unfold RunsTo
  have : (execOp (ev e) ⟨some d, .load T A, ty, pos, af, g⟩).run P w = .ok (.value v) w := by
   simp [execOp, Instr.loadAt, Instr.sureAddr, hp, U8 hA hc]
  rw [this]
  exact ⟨rfl, Grow.refl w⟩) k
theorem d_loadN {i : Nat} {T T0 b o sz : Nat} {A : Operand} {cs vs : List Value} (hA : ∀ w, (isAgg T).run P w = .ok true w) (hs : ∀ w, (sizeOf T).run P w = .ok sz w)
  (hw : Xw ops ⟨some d, .load T A, ty, pos, af, g⟩ e = true) (hp : ev e A = .pointer (some ⟨b, o, none⟩)) (hL : L[i]? = some (Jg b cs T0)) (hv : rd cs o sz = some vs)
  (k : Sq P cx ops F rest ss (upd e d (.agg vs.toArray)) L) : Sq P cx ops F (⟨some d, .load T A, ty, pos, af, g⟩ :: rest) (.d [i] (.agg vs.toArray) :: ss) e L :=
 d_det hw rfl (fun w L' hF hS hi => by
  obtain ⟨h1, h2⟩ := rd_get hv
  have hr := Vo (P := P) (w := w) (b := b) (o := o) hA hs h1 (fun j v hj => by rw [cell_of (Q8 hS ((hi i (by simp)).trans hL))]; exact h2 j v hj)
  unfold RunsTo
  have : (execOp (ev e) ⟨some d, .load T A, ty, pos, af, g⟩).run P w = .ok (.value (.agg vs.toArray)) w := by
   simp [execOp, Instr.loadAt, Instr.sureAddr, hp, hr]
  rw [this]
  exact ⟨rfl, Grow.refl w⟩) k
theorem d_call {f : FuncId} {A : Array Operand} {tys : Array TypeId} {args : List Value} {v : Value} (h : Ret P f args v) (hc : ∀ args w, (callFunc f args).run P w = .ok (.enter f args) w)
  (hw : Xw ops ⟨some d, .call ⟨.value (.func f), A, tys⟩, ty, pos, af, g⟩ e = true) (ha : A.toList.map (ev e) = args)
  (k : Sq P cx ops F rest ss (upd e d v) L) : Sq P cx ops F (⟨some d, .call ⟨.value (.func f), A, tys⟩, ty, pos, af, g⟩ :: rest) (.d [] v :: ss) e L :=
 d_det hw rfl (fun w L' _ _ _ => by
  unfold RunsTo
  rw [run_call hc ha]
  exact h w) k
theorem d_new {o : Oper} {i : Nat} {T : TypeId} {cs : List Value} (hw : Xw ops o e = true) (hd : o.dst = some d)
  (hr : ∀ w, (execOp (ev e) o).run P w = .ok (.value (.pointer (some ⟨w.heap.size, 0, none⟩))) (w.alloc (.cells cs.toArray T))) (hL : L[i]? = some empC)
  (k : ∀ b, Sq P cx ops F rest ss (upd e d (.pointer (some ⟨b, 0, none⟩))) (L.set i (Jg b cs T))) : Sq P cx ops F (o :: rest) (.nw i cs T :: ss) e L := by
 refine .take hw ⟨.pointer (some ⟨0, 0, none⟩), 0, rfl⟩ ⟨fun w L' hF hS _ hi => ?_⟩ fun v' hv' => ?_
 ·unfold RunsTo
  rw [hr]
  refine ⟨⟨_, rfl⟩, hF.grow (Jac w _), ?_⟩
  refine hS.set hF ((hi i (.inr (by simp [Kd.nw, Kd.wrs]))).trans hL) (by simp) fun S _ hSo => ⟨fun x => x = w.heap.size, ⟨fun _ => Iff.rfl, heap_alloc_new w _⟩, fun b hb => ?_, fun b hb _ => (by first | exact heap_alloc_old w _ b hb | exact heap_alloc_old w _ hb)⟩
  subst hb
  exact ⟨by simp, .inr (Nat.le_refl _)⟩
 ·obtain ⟨b, rfl⟩ : ∃ b, v' = .pointer (some ⟨b, 0, none⟩) := hv'
  rw [hd]
  exact k b
theorem d_newS {o : Oper} {i m : Nat} {T : TypeId} {cs : List Value} (hw : Xw ops o e = true) (hd : o.dst = some d)
  (hr : ∀ w, (execOp (ev e) o).run P w = .ok (.value (.slice (some ⟨w.heap.size, 0, none⟩) m m)) (w.alloc (.cells cs.toArray T))) (hL : L[i]? = some empC)
  (k : ∀ b, Sq P cx ops F rest ss (upd e d (.slice (some ⟨b, 0, none⟩) m m)) (L.set i (Jg b cs T))) : Sq P cx ops F (o :: rest) (.ns i cs T m :: ss) e L := by
 refine .take hw ⟨.slice (some ⟨0, 0, none⟩) m m, 0, rfl⟩ ⟨fun w L' hF hS _ hi => ?_⟩ fun v' hv' => ?_
 ·unfold RunsTo
  rw [hr]
  refine ⟨⟨_, rfl⟩, hF.grow (Jac w _), ?_⟩
  refine hS.set hF ((hi i (.inr (by simp [Kd.ns, Kd.wrs]))).trans hL) (by simp) fun S _ hSo => ⟨fun x => x = w.heap.size, ⟨fun _ => Iff.rfl, heap_alloc_new w _⟩, fun b hb => ?_, fun b hb _ => (by first | exact heap_alloc_old w _ b hb | exact heap_alloc_old w _ hb)⟩
  subst hb
  exact ⟨by simp, .inr (Nat.le_refl _)⟩
 ·obtain ⟨b, rfl⟩ : ∃ b, v' = .slice (some ⟨b, 0, none⟩) m m := hv'
  rw [hd]
  exact k b
theorem run_alloc {d : Option Nat} {T : TypeId} {z : Value} {cs : List Value} (hz : ∀ w, (zeroValue T).run P w = .ok z w) (hc : z.cells.toList = cs) (w : World) :
  (execOp (ev e) ⟨d, .alloc T, ty, pos, af, g⟩).run P w = .ok (.value (.pointer (some ⟨w.heap.size, 0, none⟩))) (w.alloc (.cells cs.toArray T)) := by
 subst hc
 simp [execOp, Instr.alloc, hz, run_newVar]
theorem run_store {T T0 b o sz : Nat} {A X : Operand} {x : Value} {cs cs' vs : List Value} {w : World} (hs : ∀ w, (sizeOf T).run P w = .ok sz w) (hp : ev e A = .pointer (some ⟨b, o, none⟩)) (hx : ev e X = x) (hc : x.cells.toList = vs) (hsz : vs.length = sz)
  (hpos : Nat.blt 0 sz = true) (hone : vs.all Value.oneCell' = true) (hv : wr cs o vs = some cs') (hb : w.heap[b]? = some (.cells cs.toArray T0 (0, 0))) :
  (execOp (ev e) ⟨none, .store T A X, ty, pos, af, g⟩).run P w = .ok .skip (w.setRow b cs'.toArray) := by
 have hpos' : 0 < vs.length := by rw [hsz]; simpa using hpos
 obtain ⟨h1, h2⟩ := wr_eq hv hpos'
 have hst := run_storeCells_at P b o T0 vs 0 cs.toArray w hb (by simpa using h1) (by simpa using hone)
 have hsz' : x.cells.size = sz := by rw [← hsz, ← hc]; simp
 simp only [Nat.add_zero, List.append_assoc] at hst
 simp only [execOp, Instr.storeAt, Instr.sureAddr, storeVar, hp, hx, Sem.run_bind, Sem.run_pure, Result.andThen_ok, hs, hsz', ne_eq, not_true_eq_false, if_false, hc, hst]
 rw [h2]; simp
theorem d_store {i : Nat} {a T T0 b o sz : Nat} {X : Operand} {x : Value} {cs cs' vs : List Value} (hs : ∀ w, (sizeOf T).run P w = .ok sz w)
  (hw : Xw ops ⟨none, .store T (.tmp a) X, ty, pos, af, g⟩ e = true) (hp : e a = .pointer (some ⟨b, o, none⟩)) (hx : ev e X = x) (hc : x.cells.toList = vs) (hsz : vs.length = sz) (hpos : Nat.blt 0 sz = true)
  (hone : vs.all Value.oneCell' = true) (hL : L[i]? = some (Jg b cs T0)) (hv : wr cs o vs = some cs')
  (k : Sq P cx ops F rest ss e (L.set i (Jg b cs' T0))) : Sq P cx ops F (⟨none, .store T (.tmp a) X, ty, pos, af, g⟩ :: rest) (.st a i cs' T0 :: ss) e L := by
 have hbox : boxOf (([a].map e).headD undef) cs' T0 = Jg b cs' T0 := by
  have : ([a].map e).headD undef = e a := rfl
  rw [this, hp]; rfl
 refine .take hw ⟨undef, rfl⟩ ⟨fun w L' hF hS _ hi => ?_⟩ fun v' hv' => ?_
 ·have hL' := (hi i (.inl (by simp [Kd.st, Kd.rds]))).trans hL
  have hb := Q8 hS hL'
  unfold RunsTo
  rw [run_store hs (by exact hp) hx hc hsz hpos hone hv hb]
  have hset := setRow_heap w b cs.toArray cs'.toArray T0 (0, 0) hb
  refine ⟨rfl, ⟨hF.os, hF.tape, hF.output, by simpa using hF.size, fun c hcn => ?_⟩, ?_⟩
  ·rw [setRow_other w b c _ (fun e => ?_)]
   ·exact hF.block c hcn
   ·obtain ⟨fp, f1, f2, _⟩ := hS.out
    have := (f2 i b ((f1 i _ hL').1 b |>.2 rfl)).2.2
    subst e
    exact hcn this
  ·show Sat cx _ (L'.set i (boxOf (([a].map e).headD undef) cs' T0))
   rw [hbox]
   exact hS.set hF hL' (by simp) fun S hSp hSo => ⟨S, ⟨hSp.1, hset⟩, fun c hc => ⟨by simpa using (hSo c hc).1, .inl hc⟩, fun c _ hcS => setRow_other w b c _ (fun e => hcS ((hSp.1 c).2 e))⟩
 ·show Sq P cx ops F rest ss e (L.set i (boxOf (([a].map e).headD undef) cs' T0))
  rw [hbox]
  exact k
theorem Y8 (h : F e L) : Sq P cx ops F [] [] e L := .nil h
theorem splitS {os : List Oper} {b : Bool} (ht : b = true → Sq P cx ops F os ss (upd e d (.bool true)) L) (hf : b = false → Sq P cx ops F os ss (upd e d (.bool false)) L) : Sq P cx ops F os ss (upd e d (.bool b)) L := by
 cases b
 ·exact hf rfl
 ·exact ht rfl
end rules
end Go.Vc

/- Slices, loops with what they leave alone, and calls whose contracts read memory. Conditions: none. -/
namespace Go.Vc
open Go
theorem vB {a b : Bool} (h : a = b) : Value.bool a = Value.bool b := by rw [h]
section rules
variable {P : Program} {n : Nat} {cx : Cx} {Q : U4} {e : Xb} {L : List Chunk} {ops : Array Oper} {rest : List Oper} {F : Xb → List Chunk → Prop} {ss : List Kd}
variable {ty : TypeId} {pos : String} {af : Array Edge} {g : Option (Nat × Bool)}
theorem r_neqB {d : Option Nat} {t t' : TypeId} {X Y : Operand} {x y : Bool} (hu : P.underlying t = some .bool) (hx : ev e X = .bool x) (hy : ev e Y = .bool y) (w : World) :
  (execOp (ev e) ⟨d, .binOp .neq t X Y t', ty, pos, af, g⟩).run P w = .ok (.value (.bool (decide (x ≠ y)))) w := by
 have : (Op.equalIn Op.maxDepth t (.bool x) (.bool y)).run P w = .ok (x == y) w := run_equalIn_bool' w _ t x y hu
 simp [execOp, hx, hy, eqGuard, binOp, Op.equal, this]
 cases x <;> cases y <;> rfl
theorem r_eqlA {d : Option Nat} {t t' : TypeId} {X Y : Operand} {xs ys : Array Value} {b : Bool} (hg : P.eqGuardType P.depth t = false) (heq : ∀ w, (Op.equalIn Op.maxDepth t (.agg xs) (.agg ys)).run P w = .ok b w)
  (hx : ev e X = .agg xs) (hy : ev e Y = .agg ys) (w : World) :
  (execOp (ev e) ⟨d, .binOp .eql t X Y t', ty, pos, af, g⟩).run P w = .ok (.value (.bool b)) w := by
 simp [execOp, hx, hy, eqGuard, binOp, Op.equal, heq, hg]
structure WR (P : Program) (n : Nat) (m : Nat) (c : Code) (Q : U4) (e : Xb) (w : World) : Prop where
 out : ∀ a, Sim n a e → Code.rounds P c (lift n Q) m a w
def Keeps (M : List Nat) (e e' : Xb) : Prop := ∀ t, (M.any fun x => Nat.beq x t) = false → e' t = e t
theorem Keeps.refl (M : List Nat) (e : Xb) : Keeps M e e := fun _ _ => rfl
theorem Keeps.upd {M : List Nat} {e e' : Xb} {d : Nat} {v : Value} (h : Keeps M e e') (hd : (M.any fun x => Nat.beq x d) = true) : Keeps M e (upd e' d v) := fun t ht => by
 rw [upd_ne _ _ _ _ (fun hh => by rw [hh, hd] at ht; cases ht)]
 exact h t ht
theorem Keeps.mkE {M : List Nat} {e e' : Xb} (h : Keeps M e e') : ∀ l : List (Nat × Value), (l.all fun p => M.any fun x => Nat.beq x p.1) = true → Keeps M e (mkE l e')
 | [], _ => h
 | (a, v) :: r, hl => fun t ht => by
  simp only [List.all_cons, Bool.and_eq_true] at hl
  have hne : t ≠ a := fun hh => by rw [hh, hl.1] at ht; cases ht
  have := Keeps.mkE h r hl.2 t ht
  simp only [Vc.mkE, beq_eq]
  simpa [hne] using this
structure RoundK {σ : Type} (cx : Cx) (M : List Nat) (e0 : Xb) (st : σ → List (Nat × Value)) (hp : σ → List Chunk) (I : σ → Prop) (m : Nat) (μ : σ → Nat) (e : Xb) (w : World) : Prop where
 out : ∃ s, Agree e (st s) ∧ Keeps M e0 e ∧ Fr cx w ∧ Sat cx w (hp s) ∧ I s ∧ μ s < m
def Row (w : World) (a : Option Addr) (sz : Nat) (xs : List (List Value)) : Prop :=
 xs = [] ∨ ∃ b off, a = some ⟨b, off, none⟩ ∧ ∀ (i : Nat) (x : List Value), xs[i]? = some x → x.length = sz ∧ ∀ (j : Nat) (v : Value), x[j]? = some v → w.cell? ⟨b, off + i * sz + j, none⟩ = some v
theorem Row.grow {w w' : World} {a : Option Addr} {sz : Nat} {xs : List (List Value)} (h : Row w a sz xs) (g : Grow w w') : Row w' a sz xs := by
 rcases h with h | ⟨b, off, ha, h⟩
 ·exact .inl h
 ·refine .inr ⟨b, off, ha, fun i x hx => ⟨(h i x hx).1, fun j v hv => ?_⟩⟩
  have hc := (h i x hx).2 j v hv
  have hlt : b < w.heap.size := World.block_lt_of_cell? w _ hc
  rw [Go.RowKit.Below.cell g (p := ⟨b, off + i * sz + j, none⟩) hlt]
  exact hc
theorem Row.some {w : World} {a : Option Addr} {sz : Nat} {xs : List (List Value)} (h : Row w a sz xs) {i : Nat} (hi : i < xs.length) : ∃ b off, a = some ⟨b, off, none⟩ := by
 rcases h with h | ⟨b, off, ha, _⟩
 ·subst h; simp at hi
 ·exact ⟨b, off, ha⟩
theorem row_get {sz : Nat} : ∀ (xs : List (List Value)) (i : Nat) (x : List Value), (xs.all fun x => Nat.beq x.length sz) = true → xs[i]? = some x → ∀ (j : Nat) (v : Value), x[j]? = some v → xs.flatten[i * sz + j]? = some v
 | [], i, x, _, hx, _, _, _ => by simp at hx
 | y :: ys, i, x, hl, hx, j, v, hv => by
  simp only [List.all_cons, Bool.and_eq_true] at hl
  have hy : y.length = sz := by simpa using hl.1
  have hj : j < x.length := by
   rcases Nat.lt_or_ge j x.length with h | h
   ·exact h
   ·simp [List.getElem?_eq_none h] at hv
  cases i with
  | zero =>
   simp at hx; subst hx
   simp only [List.flatten_cons, Nat.zero_mul, Nat.zero_add]
   rw [List.getElem?_append_left hj]
   exact hv
  | succ i =>
   simp at hx
   have := row_get ys i x hl.2 hx j v hv
   simp only [List.flatten_cons]
   rw [List.getElem?_append_right (by rw [Nat.succ_mul]; omega)]
   rw [show (i + 1) * sz + j - y.length = i * sz + j from by rw [Nat.succ_mul]; omega]
   exact this
theorem Wr {w : World} {i b : Nat} {cs : List Value} {T : TypeId} {sz : Nat} {xs : List (List Value)} (hS : Sat cx w L) (hL : L[i]? = some (Jg b cs T)) (hcs : xs.flatten = cs) (hlen : (xs.all fun x => Nat.beq x.length sz) = true) : Row w (some ⟨b, 0, none⟩) sz xs := by
 refine .inr ⟨b, 0, rfl, fun i x hx => ⟨?_, fun j v hv => ?_⟩⟩
 ·have := List.all_eq_true.1 hlen x (List.mem_of_getElem? hx)
  simpa using this
 ·rw [cell_of (Q8 hS hL), ← hcs, Nat.zero_add]
  exact row_get xs i x hlen hx j v hv
theorem Row.at {w : World} {a : Option Addr} {sz : Nat} {α : Type} {f : α → List Value} {xs : List α} (h : Row w a sz (xs.map f)) {k : Nat} (hk : k < xs.length) : ∃ b off, a = Option.some ⟨b, off, none⟩ :=
 h.some (i := k) (by simpa using hk)
def Wy (a : Option Addr) (k : Nat) : Value :=
 match a with
 | some x => .pointer (some ⟨x.block, x.off + k, none⟩)
 | none => undef
theorem Uf {d : Option Nat} {X : Operand} {a : Option Addr} {m c : Nat} {t u : TypeId} (hu : P.underlying t = some (.slice u)) (hx : ev e X = .slice a m c) (w : World) :
  (execOp (ev e) ⟨d, .call ⟨.builtin .len, #[X], #[t]⟩, ty, pos, af, g⟩).run P w = .ok (.value (.int .i64 m)) w := by
 simp [execOp, resolve, invoke, builtin, hx, Builtin.len_, run_underlying hu, goInt]
theorem r_lenS {d : Option Nat} {X : Operand} {s : ByteArray} {t : TypeId} (hu : P.underlying t = some .string) (hx : ev e X = .string s) (w : World) :
  (execOp (ev e) ⟨d, .call ⟨.builtin .len, #[X], #[t]⟩, ty, pos, af, g⟩).run P w = .ok (.value (.int .i64 s.size)) w := by
 simp [execOp, resolve, invoke, builtin, hx, Builtin.len_, run_underlying hu, goInt]
theorem r_index {d : Option Nat} {X I : Operand} {a : Option Addr} {m c : Nat} {t u sz : Nat} {k : IntKind} {i : Int} (hu : P.underlying t = some (.slice u)) (hs : ∀ w, (sizeOf u).run P w = .ok sz w)
  (hx : ev e X = .slice a m c) (hi : ev e I = .int k i) (ha : ∃ b off, a = some ⟨b, off, none⟩) (h0 : 0 ≤ i) (h1 : i < m) (w : World) :
  (execOp (ev e) ⟨d, .indexAddr t X I, ty, pos, af, g⟩).run P w = .ok (.value (Wy a (i.toNat * sz))) w := by
 obtain ⟨b, off, rfl⟩ := ha
 simp [execOp, Instr.indexAt, hx, hi, asIntOf, run_underlying hu, h0, h1, hs, Wy, Addr.add_lit]
theorem r_fieldP {d : Option Nat} {T fld k fo ft fsz bo : Nat} {a : Option Addr} {nm tg pk : String} {em : Bool} {X : Operand} {fs : Array Field} (hu : ∀ w, (underlying T).run P w = .ok (.struct fs) w)
  (hf : fs[fld]? = some ⟨nm, ft, fo, em, tg, pk, bo⟩) (hs : ∀ w, (sizeOf ft).run P w = .ok fsz w) (hsz : Nat.blt 0 fsz = true) (hp : ev e X = Wy a k) (ha : ∃ b off, a = some ⟨b, off, none⟩) (w : World) :
  (execOp (ev e) ⟨d, .fieldAddr T X fld, ty, pos, af, g⟩).run P w = .ok (.value (Wy a (k + fo))) w := by
 obtain ⟨b, off, rfl⟩ := ha
 rw [J3 hu hf hs hsz hp w]
 simp [Wy, Nat.add_assoc]
theorem run_loadP1 {T k : Nat} {d : Option Nat} {a : Option Addr} {A : Operand} {sz i j : Nat} {xs : List (List Value)} {x : List Value} {v : Value} {w : World} (hA : ∀ w, (isAgg T).run P w = .ok false w)
  (hp : ev e A = Wy a k) (hk : k = i * sz + j) (hr : Row w a sz xs) (hx : xs[i]? = some x) (hv : rg x j = some v) :
  (execOp (ev e) ⟨d, .load T A, ty, pos, af, g⟩).run P w = .ok (.value v) w := by
 rcases hr with rfl | ⟨b, off, rfl, h⟩
 ·simp at hx
 ·have hc := (h i x hx).2 j v (by rw [← rg_eq]; exact hv)
  subst hk
  have hp' : ev e A = .pointer (some ⟨b, off + i * sz + j, none⟩) := by rw [hp]; simp [Wy, Nat.add_assoc]
  simp [execOp, Instr.loadAt, Instr.sureAddr, hp', U8 hA hc]
theorem run_loadPN {T k m : Nat} {d : Option Nat} {a : Option Addr} {A : Operand} {sz i j : Nat} {xs : List (List Value)} {x vs : List Value} {w : World} (hA : ∀ w, (isAgg T).run P w = .ok true w) (hs : ∀ w, (sizeOf T).run P w = .ok m w)
  (hp : ev e A = Wy a k) (hk : k = i * sz + j) (hr : Row w a sz xs) (hx : xs[i]? = some x) (hv : rd x j m = some vs) :
  (execOp (ev e) ⟨d, .load T A, ty, pos, af, g⟩).run P w = .ok (.value (.agg vs.toArray)) w := by
 rcases hr with rfl | ⟨b, off, rfl, h⟩
 ·simp at hx
 ·obtain ⟨h1, h2⟩ := rd_get hv
  subst hk
  have hp' : ev e A = .pointer (some ⟨b, off + i * sz + j, none⟩) := by rw [hp]; simp [Wy, Nat.add_assoc]
  have := Vo (P := P) (w := w) (b := b) (o := off + i * sz + j) hA hs h1 (fun q v hq => by
   rw [Nat.add_assoc]; exact (h i x hx).2 (j + q) v (h2 q v hq))
  simp [execOp, Instr.loadAt, Instr.sureAddr, hp', this]
theorem Qs {o : Oper} {d : Nat} {v : Value} (hr : ∀ w, Fr cx w → Sat cx w L → (execOp (ev e) o).run P w = .ok (.value v) w) (hw : Xw ops o e = true) (hd : o.dst = some d) (hn : Nat.blt d n = true)
  (k : At cx (WL P n ops Q rest) (upd e d v) L) : At cx (WL P n ops Q (o :: rest)) e L :=
 l_yields hw hd hn fun w hF hS => ⟨v, w, hr w hF hS, k.out w hF hS⟩
theorem d_read {o : Oper} {d : Nat} {v : Value} (hr : ∀ w, Fr cx w → (execOp (ev e) o).run P w = .ok (.value v) w) (hw : Xw ops o e = true) (hd : o.dst = some d)
  (k : Sq P cx ops F rest ss (upd e d v) L) : Sq P cx ops F (o :: rest) (.d [] v :: ss) e L :=
 d_det hw hd (fun w _ hF _ _ => by unfold RunsTo; rw [hr w hF]; exact ⟨rfl, Grow.refl w⟩) k
theorem Qo {d : Nat} {f : FuncId} {A : Array Operand} {tys : Array TypeId} {args : List Value} {v : Value} (h : ∀ w, Fr cx w → Sat cx w L → Does P f args.toArray w fun v' w' => v' = v ∧ Grow w w') (hc : ∀ args w, (callFunc f args).run P w = .ok (.enter f args) w)
  (hw : Xw ops ⟨some d, .call ⟨.value (.func f), A, tys⟩, ty, pos, af, g⟩ e = true) (hn : Nat.blt d n = true) (ha : A.toList.map (ev e) = args)
  (k : At cx (WL P n ops Q rest) (upd e d v) L) : At cx (WL P n ops Q (⟨some d, .call ⟨.value (.func f), A, tys⟩, ty, pos, af, g⟩ :: rest)) e L :=
 l_calls hw rfl hn (run_call hc ha) fun w hF hS => (h w hF hS).mono fun v' w' ⟨hv, hg⟩ => by
  subst hv
  exact k.out w' (hF.grow hg) (hS.grow hg)
theorem Ua {d : Nat} {f : FuncId} {A : Array Operand} {tys : Array TypeId} {args : List Value} {v : Value} {rds : List Nat} (h : ∀ w L', Fr cx w → Sat cx w L' → (∀ i ∈ rds, L'[i]? = L[i]?) → Does P f args.toArray w fun v' w' => v' = v ∧ Grow w w') (hc : ∀ args w, (callFunc f args).run P w = .ok (.enter f args) w)
  (hw : Xw ops ⟨some d, .call ⟨.value (.func f), A, tys⟩, ty, pos, af, g⟩ e = true) (ha : A.toList.map (ev e) = args)
  (k : Sq P cx ops F rest ss (upd e d v) L) : Sq P cx ops F (⟨some d, .call ⟨.value (.func f), A, tys⟩, ty, pos, af, g⟩ :: rest) (.d rds v :: ss) e L :=
 d_det hw rfl (fun w L' hF hS hi => by
  unfold RunsTo
  rw [run_call hc ha]
  exact h w L' hF hS hi) k
theorem r_ext {d : Option Nat} {f : FuncId} {A : Array Operand} {tys : Array TypeId} {args : List Value} {v : Value} (hc : ∀ w, (callFunc f args.toArray).run P w = .ok (.value v) w) (ha : A.toList.map (ev e) = args) (w : World) :
  (execOp (ev e) ⟨d, .call ⟨.value (.func f), A, tys⟩, ty, pos, af, g⟩).run P w = .ok (.value v) w := by
 subst ha
 have : (A.toList.map (ev e)).toArray = A.map (ev e) := by rw [← Array.toList_map, Array.toArray_toList]
 rw [this] at hc
 simp only [execOp, resolve, ev, Deferred.ofValue, Sem.run_bind, Sem.run_pure, Result.andThen_ok, invoke, hc, Array.append_empty, Array.empty_append]
theorem fold_set (off : Nat) : ∀ (vs : List Value) (j : Nat) (cs : Array Value), off + j + vs.length ≤ cs.size →
  ((vs.zipIdx j).foldl (fun cs (p : Value × Nat) => cs.setIfInBounds (off + p.2) p.1) cs).toList = cs.toList.take (off + j) ++ vs ++ cs.toList.drop (off + j + vs.length)
 | [], j, cs, _ => by simp
 | v :: vs, j, cs, h => by
  simp only [List.zipIdx_cons, List.foldl_cons]
  rw [fold_set off vs (j + 1) _ (by simp at h ⊢; omega)]
  have hlt : off + j < cs.size := by simp at h; omega
  simp only [Array.toList_setIfInBounds, List.length_cons]
  have e1 : (cs.toList.set (off + j) v).take (off + (j + 1)) = cs.toList.take (off + j) ++ [v] := by
   rw [show off + (j + 1) = (off + j) + 1 from by omega, List.take_add_one]
   rw [List.take_set_of_le (Nat.le_refl _)]
   simp [hlt]
  have e2 : (cs.toList.set (off + j) v).drop (off + (j + 1) + vs.length) = cs.toList.drop (off + j + (vs.length + 1)) := by
   rw [List.drop_set_of_lt (by omega)]
   congr 1; omega
  rw [e1, e2]
  simp
theorem fill_all (sz : Nat) : ∀ (vs : List Value) (i : Nat) (cs : Array Value), (∀ v ∈ vs, v.cells.size = sz) → cs.size = (i + vs.length) * sz →
  ∃ out : Array Value, Instr.fill (fun i => some (i * sz, sz)) cs ((vs.zipIdx i).map fun p => (p.2, p.1)) = some out ∧ out.toList = cs.toList.take (i * sz) ++ vs.flatMap fun v => v.cells.toList
 | [], i, cs, _, hsz => ⟨cs, rfl, by simp at hsz; simp [← hsz, List.take_of_length_le]⟩
 | v :: vs, i, cs, hv, hsz => by
  have h1 : v.cells.size = sz := hv v (by simp)
  have hle : i * sz + v.cells.size ≤ cs.size := by
   rw [h1, hsz, ← Nat.succ_mul]; exact Nat.mul_le_mul_right _ (by simp)
  have hf := fold_set (i * sz) v.cells.toList 0 cs (by simpa using hle)
  obtain ⟨out, ho1, ho2⟩ := fill_all sz vs (i + 1) (v.cells.zipIdx.foldl (fun cs (p : Value × Nat) => cs.setIfInBounds (i * sz + p.2) p.1) cs) (fun u hu => hv u (by simp [hu])) (by
   have : (v.cells.zipIdx.foldl (fun cs (p : Value × Nat) => cs.setIfInBounds (i * sz + p.2) p.1) cs).size = cs.size := by
    rw [← Array.foldl_toList, ← Array.length_toList, Array.toList_zipIdx, hf]
    simp
    omega
   rw [this, hsz]; simp; congr 1; omega)
  refine ⟨out, ?_, ?_⟩
  ·simp only [List.zipIdx_cons, List.map_cons, Instr.fill]
   rw [if_neg (by simp [h1]; omega)]
   exact ho1
  ·rw [ho2, ← Array.foldl_toList, Array.toList_zipIdx, hf]
   simp only [List.flatMap_cons]
   rw [show (i + 1) * sz = i * sz + v.cells.toList.length from by rw [Nat.succ_mul]; simp [h1]]
   simp only [Nat.add_zero]
   have hl : (cs.toList.take (i * sz) ++ v.cells.toList).length = i * sz + v.cells.toList.length := by simp; omega
   rw [List.take_left' hl, List.append_assoc]
theorem Vm {d : Option Nat} {t u sz m : Nat} {parts : Array (Nat × Operand)} {z : Value} {vs : List Value} {cs : List Value} (hu : P.underlying t = some (.slice u)) (hs : ∀ w, (sizeOf u).run P w = .ok sz w) (hz : ∀ w, (zeroValue u).run P w = .ok z w)
  (hps : parts.toList.map (fun (i, x) => (i, ev e x)) = (vs.zipIdx 0).map fun p => (p.2, p.1)) (hm : vs.length = m) (hall : (vs.all fun v => Nat.beq v.cells.size sz) = true) (hb : Nat.ble (m * sz) 16777216 = true) (hcs : (vs.flatMap fun v => v.cells.toList) = cs) (w : World) :
  (execOp (ev e) ⟨d, .buildSlice t m parts, ty, pos, af, g⟩).run P w = .ok (.value (.slice (some ⟨w.heap.size, 0, none⟩) m m)) (w.alloc (.cells cs.toArray u)) := by
 have hps' : (parts.map fun (i, x) => (i, ev e x)).toList = (vs.zipIdx 0).map fun p => (p.2, p.1) := by rw [← hps, Array.toList_map]
 have hb' : m * sz ≤ 16777216 := by simpa using hb
 have hall' : ∀ v ∈ vs, v.cells.size = sz := fun v hv => by simpa using List.all_eq_true.1 hall v hv
 have key : ∀ cs0 : Array Value, cs0.size = m * sz → Instr.fill (fun i => some (i * sz, sz)) cs0 ((vs.zipIdx 0).map fun p => (p.2, p.1)) = some cs.toArray := by
  intro cs0 h0
  obtain ⟨out, h1, h2⟩ := fill_all sz vs 0 cs0 hall' (by rw [h0, Nat.zero_add, hm])
  rw [h1]
  congr 1
  apply Array.ext'
  rw [h2, ← hcs]; simp
 have h24 : ¬ m * sz > 2 ^ 24 := by omega
 by_cases h0 : m * sz = 0
 ·simp only [execOp, Instr.buildSlice, Sem.run_bind, run_underlying hu, Result.andThen_ok, hs, hps', h24, if_false]
  simp only [h0, if_true, Sem.run_pure, pure_bind]
  rw [key _ (by simp [h0])]
  simp [newRow, newObj, Sem.run]
 ·have hk := key ((Array.range (m * sz)).map (z.cells[· % z.cells.size]!)) (by simp)
  simp only [execOp, Instr.buildSlice, Sem.run_bind, run_underlying hu, Result.andThen_ok, hs, hps', h24, h0, if_false, hz, Sem.run_pure, hk]
  simp [newRow, newObj, Sem.run]
theorem J9 {d : Nat} {t u sz m : Nat} {parts : Array (Nat × Operand)} {z : Value} {vs cs : List Value} (hu : P.underlying t = some (.slice u)) (hs : ∀ w, (sizeOf u).run P w = .ok sz w) (hz : ∀ w, (zeroValue u).run P w = .ok z w)
  (hw : Xw ops ⟨some d, .buildSlice t m parts, ty, pos, af, g⟩ e = true) (hn : Nat.blt d n = true)
  (hps : parts.toList.map (fun (i, x) => (i, ev e x)) = (vs.zipIdx 0).map fun p => (p.2, p.1)) (hm : vs.length = m) (hall : (vs.all fun v => Nat.beq v.cells.size sz) = true) (hb : Nat.ble (m * sz) 16777216 = true) (hcs : (vs.flatMap fun v => v.cells.toList) = cs)
  (k : ∀ b, At cx (WL P n ops Q rest) (upd e d (.slice (some ⟨b, 0, none⟩) m m)) (L ++ [Jg b cs u])) : At cx (WL P n ops Q (⟨some d, .buildSlice t m parts, ty, pos, af, g⟩ :: rest)) e L :=
 l_yields hw rfl hn fun w hF hS => ⟨.slice (some ⟨w.heap.size, 0, none⟩) m m, w.alloc (.cells cs.toArray u), Vm hu hs hz hps hm hall hb hcs w, (k w.heap.size).out _ (hF.grow (Jac w _)) (sat_new hF hS cs u)⟩
end rules
end Go.Vc

/- Slices that the call makes: rows in memory of its own, that grow, are written, are handed on and handed back. Conditions: those that each rule names. -/
namespace Go.Vc
open Go
structure Turn (w w' : World) (S : Nat → Prop) (C : Chunk) : Prop where
 os : w'.os = w.os
 tape : w'.tape = w.tape
 output : w'.output = w.output
 size : w.heap.size ≤ w'.heap.size
 block : ∀ b, b < w.heap.size → ¬ S b → w'.heap[b]? = w.heap[b]?
 out : ∃ S' : Nat → Prop, C.P S' w' ∧ ∀ b, S' b → b < w'.heap.size ∧ (S b ∨ w.heap.size ≤ b)
abbrev Y2 : Nat → Prop := fun _ => False
structure Imp (C D : Chunk) : Prop where
 out : ∀ S w, C.P S w → D.P S w
theorem Imp.refl (C : Chunk) : Imp C C := ⟨fun _ _ h => h⟩
theorem Imp.of {C D : Chunk} (h : C = D) : Imp C D := h ▸ Imp.refl C
theorem Turn.grow {w w' : World} {C : Chunk} (h : Turn w w' Y2 C) : Grow w w' := ⟨h.os, h.tape, h.output, h.size, fun k hk => h.block k hk (fun x => x)⟩
theorem Yy {σ : Type} {w0 : World} {S : Nat → Prop} {L : List Chunk} {v : Value} {G : σ → Value} {C : σ → Chunk} {i : Nat} {C0 : Chunk} (x : σ) (hL : L[i]? = some C0) (hv : v = G x) (hc : Imp C0 (C x)) :
  ∀ w, Fr ⟨w0, S⟩ w → Sat ⟨w0, S⟩ w L → ∃ x, v = G x ∧ Turn w0 w S (C x) := fun w hF hS => by
 refine ⟨x, hv, hF.os, hF.tape, hF.output, hF.size, fun b hb hn => hF.block b ?_, ?_⟩
 ·rintro (h | h)
  ·exact absurd h (by show ¬ w0.heap.size ≤ b; omega)
  ·exact hn h
 ·obtain ⟨fp, h1, h2, _⟩ := hS.out
  refine ⟨fp i, hc.out _ _ (h1 i C0 hL), fun b hb => ?_⟩
  obtain ⟨_, a2, a3⟩ := h2 i b hb
  exact ⟨a2, a3.symm⟩
theorem Sat.one {w : World} {S : Nat → Prop} {C : Chunk} (h : C.P S w) (hb : ∀ b, S b → b < w.heap.size) : Sat ⟨w, S⟩ w [C] :=
 ⟨fun i b => i = 0 ∧ S b, fun i c hc => by
  cases i with
  | zero => simp at hc; subst hc; simpa using h
  | succ i => simp at hc, fun i b ⟨hi, hs⟩ => ⟨by simp [hi], hb b hs, .inr hs⟩, fun i j b ⟨hi, _⟩ ⟨hj, _⟩ => by omega⟩
section rules
variable {P : Program} {n : Nat} {cx : Cx} {Q : U4} {e : Xb} {L : List Chunk} {ops : Array Oper} {F : Xb → List Chunk → Prop} {rest : List Oper} {ss : List Kd}
variable {d : Nat} {ty : TypeId} {pos : String} {af : Array Edge} {g : Option (Nat × Bool)}
theorem c_know {K : Xb → World → Prop} {φ : Prop} (h : ∀ w, Fr cx w → Sat cx w L → φ) (k : φ → At cx K e L) : At cx K e L :=
 ⟨fun w hF hS => (k (h w hF hS)).out w hF hS⟩
theorem Fr.turn {w w' : World} {S : Nat → Prop} {C : Chunk} (hF : Fr cx w) (h : Turn w w' S C) (hS : ∀ b, S b → cx.own b) : Fr cx w' :=
 ⟨h.os.trans hF.os, h.tape.trans hF.tape, h.output.trans hF.output, Nat.le_trans hF.size h.size, fun b hb => by
  have hlt : b < w.heap.size := by
   have : ¬ cx.w0.heap.size ≤ b := fun hh => hb (.inl hh)
   have := hF.size
   omega
  rw [h.block b hlt (fun hs => hb (hS b hs)), hF.block b hb]⟩
theorem Sat.turnNew {w w' : World} {C : Chunk} (hS : Sat cx w L) (hF : Fr cx w) (h : Turn w w' Y2 C) : Sat cx w' (L ++ [C]) := by
 obtain ⟨S', h1, h2⟩ := h.out
 exact hS.snoc hF h.grow h1 fun b hb => ⟨((h2 b hb).2.resolve_left (fun x => x)), (h2 b hb).1⟩
theorem Sat.turnAt {w w' : World} {i : Nat} {C0 C : Chunk} (hS : Sat cx w L) (hF : Fr cx w) (hL : L[i]? = some C0)
  (h : ∀ S : Nat → Prop, C0.P S w → (∀ b, S b → b < w.heap.size ∧ cx.own b) → Turn w w' S C) (hs : w.heap.size ≤ w'.heap.size) : Sat cx w' (L.set i C) :=
 hS.set hF hL hs fun S hp hb => by
  have t := h S hp hb
  obtain ⟨S', k1, k2⟩ := t.out
  exact ⟨S', k1, k2, fun b hlt hn => t.block b hlt hn⟩
theorem Sat.at {w : World} {i : Nat} {C : Chunk} (hS : Sat cx w L) (hL : L[i]? = some C) : ∃ S : Nat → Prop, C.P S w ∧ ∀ b, S b → b < w.heap.size ∧ cx.own b := by
 obtain ⟨fp, h1, h2, _⟩ := hS.out
 exact ⟨fp i, h1 i C hL, fun b hb => (h2 i b hb).2⟩
theorem l_runs {o : Oper} {d : Nat} (hw : Xw ops o e = true) (hd : o.dst = some d) (hn : Nat.blt d n = true)
  (h : ∀ w, Fr cx w → Sat cx w L → RunsTo P (ev e) o w fun v w' => WL P n ops Q rest (upd e d v) w') : At cx (WL P n ops Q (o :: rest)) e L :=
 ⟨fun w hF hS => ⟨fun a ha => by
  have hr := h w hF hS
  unfold RunsTo at hr
  unfold wpList
  rw [want_eq ha, hw, if_pos rfl]
  refine .inl ?_
  unfold Oper.wp
  rw [ha.ev]
  generalize (execOp (ev e) o).run P w = r at hr
  cases r with
  | halt x w' => exact hr.elim
  | ok nx w' =>
   cases nx with
   | value v =>
    show wpList P ops (lift n Q) rest (a.put o.dst v) w'
    rw [hd]
    exact hr.out _ (ha.put hn v)
   | skip =>
    show wpList P ops (lift n Q) rest (a.put o.dst undef) w'
    rw [hd]
    exact hr.out _ (ha.put hn undef)
   | enter f args =>
    refine Calls.mono hr ?_
    rintro en w'' ⟨v, rfl, hk⟩
    show wpList P ops (lift n Q) rest (a.put o.dst v) w''
    rw [hd]
    exact hk.out _ (ha.put hn v)
   | _ => exact hr.elim⟩⟩
def Turns (P : Program) (cx : Cx) (e : Xb) (o : Oper) (L : List Chunk) (i : Nat) (rds : List Nat) {σ : Type} (G : σ → Value) (C : σ → Chunk) : Prop :=
 ∀ w L', Fr cx w → Sat cx w L' → L'.length = L.length → (∀ j, j ∈ rds ∨ j = i → L'[j]? = L[j]?) → RunsTo P (ev e) o w fun v w' => ∃ x, v = G x ∧ Fr cx w' ∧ Sat cx w' (L'.set i (C x))
def Makes (P : Program) (cx : Cx) (e : Xb) (o : Oper) (L : List Chunk) (rds : List Nat) {σ : Type} (G : σ → Value) (C : σ → Chunk) : Prop :=
 ∀ w L', Fr cx w → Sat cx w L' → (∀ j, j ∈ rds → L'[j]? = L[j]?) → RunsTo P (ev e) o w fun v w' => ∃ x, v = G x ∧ Turn w w' Y2 (C x)
theorem Qk {σ : Type} {o : Oper} {d i : Nat} {rds : List Nat} {G : σ → Value} {C : σ → Chunk} (h : Turns P cx e o L i rds G C) (hw : Xw ops o e = true) (hd : o.dst = some d) (hn : Nat.blt d n = true)
  (k : ∀ x, At cx (WL P n ops Q rest) (upd e d (G x)) (L.set i (C x))) : At cx (WL P n ops Q (o :: rest)) e L :=
 l_runs hw hd hn fun w hF hS => (h w L hF hS rfl (fun _ _ => rfl)).mono fun v w' ⟨x, hv, hF', hS'⟩ => by
  subst hv
  exact (k x).out w' hF' hS'
theorem Yw {σ : Type} {o : Oper} {d : Nat} {rds : List Nat} {G : σ → Value} {C : σ → Chunk} (h : Makes P cx e o L rds G C) (hw : Xw ops o e = true) (hd : o.dst = some d) (hn : Nat.blt d n = true)
  (k : ∀ x, At cx (WL P n ops Q rest) (upd e d (G x)) (L ++ [C x])) : At cx (WL P n ops Q (o :: rest)) e L :=
 l_runs hw hd hn fun w hF hS => (h w L hF hS (fun _ _ => rfl)).mono fun v w' ⟨x, hv, ht⟩ => by
  subst hv
  exact (k x).out w' (hF.grow ht.grow) (hS.turnNew hF ht)
def Kd.t (i : Nat) (rds : List Nat) {σ : Type} (G : σ → Value) (Cv : Value → Chunk) : Kd := .g [] rds [i] (fun _ _ v => ∃ x, v = G x) (fun _ _ v => [Cv v])
theorem d_turn {σ : Type} {o : Oper} {d i : Nat} {rds : List Nat} {G : σ → Value} {C : σ → Chunk} {Cv : Value → Chunk} (x0 : σ) (h : Turns P cx e o L i rds G C) (hC : ∀ x, Cv (G x) = C x) (hw : Xw ops o e = true) (hd : o.dst = some d)
  (k : ∀ x, Sq P cx ops F rest ss (upd e d (G x)) (L.set i (C x))) : Sq P cx ops F (o :: rest) (.t i rds G Cv :: ss) e L := by
 refine .take hw ⟨G x0, x0, rfl⟩ ⟨fun w L' hF hS hl hi => ?_⟩ fun v' hv' => ?_
 ·refine (h w L' hF hS hl fun j hj => hi j (by simpa [Kd.t, Kd.rds, Kd.wrs] using hj)).mono fun v w' ⟨x, hv, hF', hS'⟩ => ?_
  subst hv
  refine ⟨⟨x, rfl⟩, hF', ?_⟩
  show Sat cx w' (L'.set i (Cv (G x)))
  rw [hC]; exact hS'
 ·obtain ⟨x, rfl⟩ : ∃ x, v' = G x := hv'
  show Sq P cx ops F rest ss (putD e o.dst (G x)) (L.set i (Cv (G x)))
  rw [hC, hd]
  exact k x
theorem d_make {σ : Type} {o : Oper} {d i : Nat} {rds : List Nat} {G : σ → Value} {C : σ → Chunk} {Cv : Value → Chunk} (x0 : σ) (h : Makes P cx e o L rds G C) (hC : ∀ x, Cv (G x) = C x) (hL : L[i]? = some empC) (hw : Xw ops o e = true) (hd : o.dst = some d)
  (k : ∀ x, Sq P cx ops F rest ss (upd e d (G x)) (L.set i (C x))) : Sq P cx ops F (o :: rest) (.t i rds G Cv :: ss) e L := by
 refine d_turn x0 (fun w L' hF hS hl hi => ?_) hC hw hd k
 refine (h w L' hF hS fun j hj => hi j (.inl hj)).mono fun v w' ⟨x, hv, ht⟩ => ⟨x, hv, hF.grow ht.grow, ?_⟩
 exact hS.turnAt hF ((hi i (.inr rfl)).trans hL) (fun S hp _ => by
  obtain ⟨S', k1, k2⟩ := ht.out
  exact ⟨ht.os, ht.tape, ht.output, ht.size, fun b hb _ => ht.block b hb (fun x => x), S', k1, fun b hb => ⟨(k2 b hb).1, .inr ((k2 b hb).2.resolve_left (fun x => x))⟩⟩) ht.size
theorem Qm {σ : Type} {d : Nat} {f : FuncId} {A : Array Operand} {tys : Array TypeId} {args : List Value} {rds : List Nat} {G : σ → Value} {C : σ → Chunk}
  (h : ∀ w L', Fr cx w → Sat cx w L' → (∀ j ∈ rds, L'[j]? = L[j]?) → Does P f args.toArray w fun v w' => ∃ x, v = G x ∧ Turn w w' Y2 (C x)) (hc : ∀ args w, (callFunc f args).run P w = .ok (.enter f args) w)
  (ha : A.toList.map (ev e) = args) : Makes P cx e ⟨some d, .call ⟨.value (.func f), A, tys⟩, ty, pos, af, g⟩ L rds G C := fun w L' hF hS hi => by
 unfold RunsTo
 rw [run_call hc ha]
 exact h w L' hF hS hi
def Js (E : TypeId) (sz : Nat) (v : Value) (n : Nat) (xs : List (List Value)) : Chunk where
 P S w := (w.ownsRow 0 E sz v n xs.flatten ∧ xs.length = n ∧ ∀ x ∈ xs, x.length = sz) ∧ ∀ b, v.ownBlock = some b → S b
 loc S w w' h := by
  rintro ⟨⟨⟨h1, h2⟩, h3⟩, h4⟩
  refine ⟨⟨⟨h1, ?_⟩, h3⟩, h4⟩
  rcases h2 with h2 | ⟨g, cap, cur, rfl, hb, hh, hr⟩
  ·exact .inl h2
  ·exact .inr ⟨g, cap, cur, rfl, hb, (h g (h4 g rfl)).trans hh, hr⟩
theorem ownsRow_Row {w : World} {E sz n c : Nat} {a : Option Addr} {xs : List (List Value)} (h : w.ownsRow 0 E sz (.slice a n c) n xs.flatten) (hn : xs.length = n) (hl : ∀ x ∈ xs, x.length = sz) : Row w a sz xs := by
 rcases h.2 with ⟨hv, h0⟩ | ⟨g, cap, cur, hv, _, hh, hnc, _, hcs, ht⟩
 ·exact .inl (List.eq_nil_of_length_eq_zero (hn.trans h0))
 ·simp only [Value.slice.injEq] at hv
  obtain ⟨rfl, _, rfl⟩ := hv
  refine .inr ⟨g, 0, rfl, fun i x hx => ⟨hl x (List.mem_of_getElem? hx), fun j v hj => ?_⟩⟩
  have hg := row_get xs i x (List.all_eq_true.2 fun y hy => by simpa using hl y hy) hx j v hj
  rw [← ht, List.getElem?_take] at hg
  split at hg
  ·rw [World.cell?, hh]
   simpa using hg
  ·cases hg
theorem V3 {w : World} {i E sz n c : Nat} {a : Option Addr} {xs : List (List Value)} (hS : Sat cx w L) (hL : L[i]? = some (Js E sz (.slice a n c) n xs)) : Row w a sz xs := by
 obtain ⟨S, ⟨⟨h1, h2, h3⟩, _⟩, _⟩ := hS.at hL
 exact ownsRow_Row h1 h2 h3
theorem lenOf {w : World} {i E sz n : Nat} {v : Value} {xs : List (List Value)} (hS : Sat cx w L) (hL : L[i]? = some (Js E sz v n xs)) : xs.length = n := by
 obtain ⟨S, ⟨⟨h1, h2, h3⟩, _⟩, _⟩ := hS.at hL
 exact h2
theorem J5 {K : Xb → World → Prop} (E sz : Nat) (k : At cx K e (L ++ [Js E sz (.slice none 0 0) 0 []])) : At cx K e L :=
 ⟨fun w hF hS => k.out w hF (hS.snoc hF (Grow.refl w) (S := Y2) ⟨⟨World.ownsRow_nil _ _ _ _, rfl, by simp⟩, by simp [Value.ownBlock]⟩ (fun _ h => h.elim))⟩
theorem Qn {K : Xb → World → Prop} (i : Nat) {C C' : Chunk} (hL : L[i]? = some C) (h : Imp C C') (k : At cx K e (L.set i C')) : At cx K e L :=
 ⟨fun w hF hS => k.out w hF (hS.set hF hL (Nat.le_refl _) fun S hp hb => ⟨S, h.out S w hp, fun b hs => ⟨(hb b hs).1, .inl hs⟩, fun _ _ _ => rfl⟩)⟩
theorem Zl {o : Oper} {d : Nat} {v : Value} {rds : List Nat} (hr : ∀ w L', Fr cx w → Sat cx w L' → (∀ i ∈ rds, L'[i]? = L[i]?) → (execOp (ev e) o).run P w = .ok (.value v) w) (hw : Xw ops o e = true) (hd : o.dst = some d)
  (k : Sq P cx ops F rest ss (upd e d v) L) : Sq P cx ops F (o :: rest) (.d rds v :: ss) e L :=
 d_det hw hd (fun w L' hF hS hi => by unfold RunsTo; rw [hr w L' hF hS hi]; exact ⟨rfl, Grow.refl w⟩) k
theorem run_append_at {d : Option Nat} {S X : Operand} {t E : TypeId} {I : TypeInfo} {z : Value} {sz by_ : Nat} {w : World} {v : Value} {m : Nat} {xs : List Value} {ad : Addr} {q c : Nat} {news : List Value}
  (ht : P.underlying t = some (.slice E)) (hi : P.info? E = some I) (hz : I.zero = some z) (hsize : I.size = sz) (hby : I.bytes = by_) (hzs : z.cells.size = sz) (hsz : 0 < sz)
  (hs : ev e S = v) (hown : w.ownsRow 0 E sz v m xs) (hx : ev e X = .slice (some ad) q c) (hl : news.length = q * sz) (hnews : ∀ j u, news[j]? = some u → w.cell? (ad.add j) = some u) (h1 : ∀ u ∈ news, u.oneCell' = true)
  (h63 : m + q ≤ maxLen) (hbytes : (m + q) * by_ ≤ 140737488355328) :
  ∃ v' w', (execOp (ev e) ⟨d, .call ⟨.builtin .append, #[S, X], #[t, t]⟩, ty, pos, af, g⟩).run P w = .ok (.value v') w' ∧ w'.ownsRow 0 E sz v' (m + q) (xs ++ news) ∧ w.grownBy w' v.ownBlock ∧ (v'.ownBlock = v.ownBlock ∨ v'.ownBlock = some w.heap.size) := by
 obtain ⟨v', w', hr, h2, h3, h4, h5⟩ := run_append_own_at (P := P) w 0 t ty E I z sz by_ ht hi hz hsize hby hzs hsz v m xs hown ad q c news hl hnews h1 h63 hbytes (Nat.zero_le _)
 refine ⟨v', w', ?_, h2, h3, h5⟩
 simp only [execOp, resolve, invoke, builtin, Sem.run_bind, Sem.run_pure, Result.andThen_ok, List.map_toArray, List.map_cons, List.map_nil, hs, hx, hr]
theorem Uq {w : World} {E sz n : Nat} {v : Value} {xs : List Value} (h : w.ownsRow 0 E sz v n xs) : ∃ p : Option Addr × Nat, v = .slice p.1 n p.2 := by
 rcases h.2 with ⟨rfl, h0⟩ | ⟨g, cap, cur, rfl, _⟩
 ·subst h0; exact ⟨(none, 0), rfl⟩
 ·exact ⟨(some ⟨g, 0, none⟩, cap), rfl⟩
theorem Vw {w w' : World} {E sz m' : Nat} {v v' : Value} {xs' : List (List Value)} {S : Nat → Prop} (hS : ∀ b, v.ownBlock = some b → S b) (ho : w'.ownsRow 0 E sz v' m' xs'.flatten) (hg : w.grownBy w' v.ownBlock)
  (h5 : v'.ownBlock = v.ownBlock ∨ v'.ownBlock = some w.heap.size) (hn : xs'.length = m') (hl : ∀ x ∈ xs', x.length = sz) : Turn w w' S (Js E sz v' m' xs') := by
 refine ⟨hg.os, hg.tape, hg.output, hg.size, fun b hb hn => hg.block b hb (fun h => hn (hS b h.symm)), fun b => v'.ownBlock = some b, ⟨⟨ho, hn, hl⟩, fun b h => h⟩, fun b hb => ⟨(ho.lt b hb).2, ?_⟩⟩
 rcases h5 with h | h
 ·exact .inl (hS b (h ▸ hb))
 ·rw [h] at hb; cases hb; exact .inr (Nat.le_refl _)
theorem Sat.turnOf {w w' : World} {i : Nat} {C0 C : Chunk} (hS : Sat cx w L) (hF : Fr cx w) (hL : L[i]? = some C0)
  (h : ∀ S : Nat → Prop, C0.P S w → Turn w w' S C) : Fr cx w' ∧ Sat cx w' (L.set i C) := by
 obtain ⟨S, hp, hb⟩ := hS.at hL
 have t := h S hp
 exact ⟨hF.turn t fun b hs => (hb b hs).2, hS.turnAt hF hL (fun S hp _ => h S hp) t.size⟩
theorem Jam {sz : Nat} : ∀ (xs : List (List Value)), (∀ x ∈ xs, x.length = sz) → ∀ (j : Nat) (u : Value), xs.flatten[j]? = some u → ∃ i k x, xs[i]? = some x ∧ x[k]? = some u ∧ j = i * sz + k
 | [], _, j, u, h => by simp at h
 | x :: r, hl, j, u, h => by
  have hx := hl x (by simp)
  rw [List.flatten_cons] at h
  rcases Nat.lt_or_ge j x.length with hj | hj
  ·rw [List.getElem?_append_left hj] at h
   exact ⟨0, j, x, by simp, h, by simp⟩
  ·rw [List.getElem?_append_right hj] at h
   obtain ⟨i, k, y, h1, h2, h3⟩ := Jam r (fun y hy => hl y (by simp [hy])) _ u h
   exact ⟨i + 1, k, y, by simpa using h1, h2, by rw [Nat.succ_mul]; omega⟩
theorem Yf {sz : Nat} : ∀ (xs : List (List Value)), (∀ x ∈ xs, x.length = sz) → xs.flatten.length = xs.length * sz
 | [], _ => by simp
 | x :: r, hl => by
  rw [List.flatten_cons, List.length_append, Yf r (fun y hy => hl y (by simp [hy])), hl x (by simp), List.length_cons, Nat.succ_mul]
  omega
theorem turns_append {i : Nat} {S X : Operand} {t E : TypeId} {I : TypeInfo} {z : Value} {sz by_ : Nat} {p : Option Addr × Nat} {m m' : Nat} {xs xs' : List (List Value)} {ad : Addr} {q c : Nat} {news : List (List Value)} {rds : List Nat}
  (ht : P.underlying t = some (.slice E)) (hi : P.info? E = some I) (hz : I.zero = some z) (hsize : I.size = sz) (hby : I.bytes = by_) (hzs : z.cells.size = sz) (hsz : Nat.blt 0 sz = true)
  (hL : L[i]? = some (Js E sz (.slice p.1 m p.2) m xs)) (hs : ev e S = .slice p.1 m p.2) (hx : ev e X = .slice (some ad) q c) (hq : news.length = q) (hnl : ∀ x ∈ news, x.length = sz)
  (hnews : ∀ w L', Fr cx w → Sat cx w L' → (∀ j, j ∈ rds → L'[j]? = L[j]?) → Row w (some ad) sz news) (h1 : ∀ x ∈ news, ∀ u ∈ x, u.oneCell' = true)
  (hxs : xs ++ news = xs') (hm : m + q = m') (h63 : m' ≤ 9223372036854775807) (hbytes : m' * by_ ≤ 140737488355328) :
  Turns P cx e ⟨some d, .call ⟨.builtin .append, #[S, X], #[t, t]⟩, ty, pos, af, g⟩ L i rds (fun p' : Option Addr × Nat => .slice p'.1 m' p'.2) (fun p' => Js E sz (.slice p'.1 m' p'.2) m' xs') := fun w L' hF hS hl hi' => by
  subst hxs hm
  have hL' := (hi' i (.inr rfl)).trans hL
  obtain ⟨S0, ⟨⟨ho, hlen, hlx⟩, hob⟩, _⟩ := hS.at hL'
  have hsz' : 0 < sz := by simpa using hsz
  have hfl : news.flatten.length = q * sz := by rw [Yf news hnl, hq]
  have hcell : ∀ j u, news.flatten[j]? = some u → w.cell? (ad.add j) = some u := by
   intro j u hj
   obtain ⟨i', k', x, g1, g2, g3⟩ := Jam news hnl j u hj
   rcases hnews w L' hF hS (fun j hj => hi' j (.inl hj)) with h | ⟨b, off, ha, h⟩
   ·subst h; simp at g1
   ·cases ha
    have := (h i' x g1).2 k' u g2
    rw [Addr.add_lit, g3, ← Nat.add_assoc]
    exact this
  obtain ⟨v', w', hr, h2, h3, h5⟩ := run_append_at (P := P) (ty := ty) (pos := pos) (af := af) (g := g) (d := some d) ht hi hz hsize hby hzs hsz' hs ho hx hfl hcell (by
   intro u hu
   obtain ⟨x, hx, hux⟩ := List.mem_flatten.1 hu
   exact h1 x hx u hux) (by simp only [maxLen]; omega) hbytes
  obtain ⟨p', rfl⟩ := Uq h2
  rw [← List.flatten_append] at h2
  obtain ⟨hF', hS'⟩ := hS.turnOf hF hL' (C := Js E sz (.slice p'.1 (m + q) p'.2) (m + q) (xs ++ news)) fun S1 hp => Vw hp.2 h2 h3 h5 (by simp [hlen, hq]) (by
   intro x hx
   rcases List.mem_append.1 hx with h | h
   ·exact hlx x h
   ·exact hnl x h)
  unfold RunsTo
  rw [hr]
  exact ⟨p', rfl, hF', hS'⟩
theorem rep_flat (l : List Value) : ∀ (n j : Nat), j < n * l.length → (List.replicate n l).flatten[j]? = l[j % l.length]?
 | 0, j, h => by simp at h
 | n + 1, j, h => by
  rw [List.replicate_succ, List.flatten_cons]
  rcases Nat.lt_or_ge j l.length with hj | hj
  ·rw [List.getElem?_append_left hj, Nat.mod_eq_of_lt hj]
  ·rw [List.getElem?_append_right hj, rep_flat l n (j - l.length) (by rw [Nat.succ_mul] at h; omega), ← Nat.mod_eq_sub_mod hj]
theorem made_rep (z : Array Value) (n : Nat) (hz : 0 < z.size) : (madeCells z (n * z.size)).toList = (List.replicate n z.toList).flatten := by
 refine List.ext_getElem? fun j => ?_
 rcases Nat.lt_or_ge j (n * z.size) with hj | hj
 ·have h1 := rep_flat z.toList n j (by simpa using hj)
  rw [h1]
  have hm : j % z.size < z.size := Nat.mod_lt _ hz
  simp [madeCells, hj, hm]
 ·rw [List.getElem?_eq_none (by simpa [madeCells] using hj), List.getElem?_eq_none]
  rw [Yf (sz := z.size) _ (by intro x hx; rw [List.eq_of_mem_replicate hx]; simp)]
  simpa using hj
theorem makes_makeSlice {N C : Operand} {t E : TypeId} {I : TypeInfo} {z : Value} {sz by_ : Nat} {m c : Nat} {kl kc : IntKind} {rds : List Nat} {zs : List (List Value)} (ht : P.underlying t = some (.slice E)) (hi : P.info? E = some I) (hz : I.zero = some z) (hsize : I.size = sz) (hby : I.bytes = by_)
  (hzs : z.cells.toList.length = sz) (hsz : Nat.blt 0 sz = true) (hn : ev e N = .int kl (m : Int)) (hc : ev e C = .int kc (c : Int)) (hmc : m = c) (hb : by_ * c ≤ 281474976710656) (h63 : c ≤ 9223372036854775807) (hzz : zs = List.replicate m z.cells.toList) :
  Makes P cx e ⟨some d, .makeSlice t N C, ty, pos, af, g⟩ L rds (fun p : Option Addr × Nat => .slice p.1 m p.2) (fun p => Js E sz (.slice p.1 m p.2) m zs) := fun w L' hF hS hi' => by
 subst hsize hby hmc hzz
 obtain ⟨w', hr, ho, hg⟩ := run_make_full (P := P) w 0 t E I z I.size ht hi hz rfl kl kc m hb (by simpa [maxLen] using h63) (Nat.zero_le _)
 have hsz' : 0 < I.size := by simpa using hsz
 have hzz : z.cells.size = I.size := by simpa using hzs
 have ho' : w'.ownsRow 0 E I.size (.slice (some ⟨w.heap.size, 0, none⟩) m m) m (List.replicate m z.cells.toList).flatten := by
  rw [← made_rep z.cells m (by omega), hzz]; exact ho
 unfold RunsTo
 simp only [execOp, hn, hc, hr, Sem.run_bind, Sem.run_pure, Result.andThen_ok]
 refine ⟨(_, _), rfl, hg.os, hg.tape, hg.output, hg.size, fun b hb _ => hg.block b hb (by simp), fun b => b = w.heap.size, ⟨⟨ho', by simp, fun x hx => by rw [List.eq_of_mem_replicate hx]; exact hzs⟩, fun b hb => ?_⟩, fun b hb => ?_⟩
 ·simp [Value.ownBlock] at hb; exact hb.symm
 ·subst hb
  exact ⟨(ho.lt _ rfl).2, .inr (Nat.le_refl _)⟩
def Q7 (a : Option Addr) (l m sz : Nat) : Option Addr := if m = l then a else a.map (·.add (l * sz))
theorem Row.cut {w : World} {a : Option Addr} {sz : Nat} {xs : List (List Value)} (h : Row w a sz xs) (l q m : Nat) (hq : l + q ≤ m) : Row w (Q7 a l m sz) sz ((xs.drop l).take q) := by
 rcases h with h | ⟨b, off, rfl, h⟩
 ·subst h; exact .inl (by simp)
 ·unfold Q7
  by_cases hm : m = l
  ·have hq0 : q = 0 := by omega
   subst hq0
   exact .inl (by simp)
  ·rw [if_neg hm]
   refine .inr ⟨b, off + l * sz, by simp [Addr.add_lit], fun i x hx => ?_⟩
   rw [List.getElem?_take] at hx
   split at hx
   ·rw [List.getElem?_drop] at hx
    obtain ⟨h1, h2⟩ := h (l + i) x hx
    refine ⟨h1, fun j v hv => ?_⟩
    have := h2 j v hv
    rw [show off + l * sz + i * sz + j = off + (l + i) * sz + j from by rw [Nat.add_mul]; omega]
    exact this
   ·cases hx
theorem elem_of {t u : TypeId} (hu : P.underlying t = some (.slice u)) : P.elem t = u := by simp [Program.elem, hu]
theorem r_sliceLH {d : Option Nat} {X A B : Operand} {a : Option Addr} {m c : Nat} {t u sz : Nat} {ka kb : IntKind} {l h : Int} (hu : P.underlying t = some (.slice u)) (hs : ∀ w, (sizeOf u).run P w = .ok sz w)
  (hx : ev e X = .slice a m c) (ha : ev e A = .int ka l) (hb : ev e B = .int kb h) (h0 : 0 ≤ l) (h1 : l ≤ h) (h2 : h ≤ c) (w : World) :
  (execOp (ev e) ⟨d, .slice t X (some A) (some B) none, ty, pos, af, g⟩).run P w = .ok (.value (.slice (Q7 a l.toNat c sz) (h.toNat - l.toNat) (c - l.toNat))) w := by
 have hu' : P.underlying t = some (.slice (P.elem t)) := by rw [elem_of hu]; exact hu
 simp only [execOp, Option.map_some, Option.map_none, hx, ha, hb, Sem.run_bind, run_sliceAt_slice w t _ _ _ _ hu', run_slice_lh w t a m c hu' ka kb l h h0 h1 h2, elem_of hu, hs, Result.andThen_ok, Sem.run_pure, sliced, Q7]
theorem r_sliceL {d : Option Nat} {X A : Operand} {a : Option Addr} {m c : Nat} {t u sz : Nat} {ka : IntKind} {l : Int} (hu : P.underlying t = some (.slice u)) (hs : ∀ w, (sizeOf u).run P w = .ok sz w)
  (hx : ev e X = .slice a m c) (ha : ev e A = .int ka l) (h0 : 0 ≤ l) (h1 : l ≤ m) (w : World) :
  (execOp (ev e) ⟨d, .slice t X (some A) none none, ty, pos, af, g⟩).run P w = .ok (.value (.slice (Q7 a l.toNat c sz) (m - l.toNat) (c - l.toNat))) w := by
 have hu' : P.underlying t = some (.slice (P.elem t)) := by rw [elem_of hu]; exact hu
 simp only [execOp, Option.map_some, Option.map_none, hx, ha, Sem.run_bind, run_sliceAt_slice w t _ _ _ _ hu', run_slice_l w t a m c hu' ka l h0 h1, elem_of hu, hs, Result.andThen_ok, Sem.run_pure, sliced, Q7]
theorem r_sliceH {d : Option Nat} {X B : Operand} {a : Option Addr} {m c : Nat} {t u sz : Nat} {kb : IntKind} {h : Int} (hu : P.underlying t = some (.slice u)) (hs : ∀ w, (sizeOf u).run P w = .ok sz w)
  (hx : ev e X = .slice a m c) (hb : ev e B = .int kb h) (h0 : 0 ≤ h) (h2 : h ≤ c) (w : World) :
  (execOp (ev e) ⟨d, .slice t X none (some B) none, ty, pos, af, g⟩).run P w = .ok (.value (.slice (Q7 a 0 c sz) h.toNat c)) w := by
 have hu' : P.underlying t = some (.slice (P.elem t)) := by rw [elem_of hu]; exact hu
 simp only [execOp, Option.map_some, Option.map_none, hx, hb, Sem.run_bind, run_sliceAt_slice w t _ _ _ _ hu', run_slice_h w t a m c hu' kb h h0 h2, elem_of hu, hs, Result.andThen_ok, Sem.run_pure, sliced, Q7, Nat.sub_zero]
theorem r_sliceHM {d : Option Nat} {X B M : Operand} {a : Option Addr} {m c : Nat} {t u sz : Nat} {kb km : IntKind} {h q : Int} (hu : P.underlying t = some (.slice u)) (hs : ∀ w, (sizeOf u).run P w = .ok sz w)
  (hx : ev e X = .slice a m c) (hb : ev e B = .int kb h) (hm : ev e M = .int km q) (h0 : 0 ≤ h) (h1 : h ≤ q) (h2 : q ≤ c) (w : World) :
  (execOp (ev e) ⟨d, .slice t X none (some B) (some M), ty, pos, af, g⟩).run P w = .ok (.value (.slice (Q7 a 0 q.toNat sz) h.toNat q.toNat)) w := by
 have hu' : P.underlying t = some (.slice (P.elem t)) := by rw [elem_of hu]; exact hu
 simp only [execOp, Option.map_some, Option.map_none, hx, hb, hm, Sem.run_bind, run_sliceAt_slice w t _ _ _ _ hu', run_slice_hm w t a m c hu' kb km h q h0 h1 h2, elem_of hu, hs, Result.andThen_ok, Sem.run_pure, sliced, Q7, Nat.sub_zero]
theorem Jaw {α : Type} {f : α → List Value} {ys ls : List α} {i k b : Nat} {S X : Operand} {t E T : TypeId} {I : TypeInfo} {z : Value} {sz by_ : Nat} {p : Option Addr × Nat} {m q : Nat} {cs : List Value} {xs : List (List Value)}
  (ht : P.underlying t = some (.slice E)) (hi : P.info? E = some I) (hz : I.zero = some z) (hsize : I.size = sz) (hby : I.bytes = by_) (hzs : z.cells.size = sz) (hsz : Nat.blt 0 sz = true)
  (hL : L[i]? = some (Js E sz (.slice p.1 m p.2) m xs)) (hxs : xs = ys.map f) (hm : m = ys.length) (hs : ev e S = .slice p.1 m p.2) (hx : ev e X = .slice (some ⟨b, 0, none⟩) q q) (hk : L[k]? = some (Jg b cs T)) (hcs : (ls.map f).flatten = cs) (hq : (ls.map f).length = q)
  (hnl : ((ls.map f).all fun x => Nat.beq x.length sz) = true) (h1 : ((ls.map f).all fun x => x.all Value.oneCell') = true) (h63 : (ys ++ ls).length * by_ ≤ 140737488355328) (hb0 : Nat.blt 0 by_ = true) :
  Turns P cx e ⟨some d, .call ⟨.builtin .append, #[S, X], #[t, t]⟩, ty, pos, af, g⟩ L i [k] (fun p' : Option Addr × Nat => .slice p'.1 (ys ++ ls).length p'.2) (fun p' => Js E sz (.slice p'.1 (ys ++ ls).length p'.2) (ys ++ ls).length ((ys ++ ls).map f)) := by
 subst hxs hm
 exact turns_append ht hi hz hsize hby hzs hsz hL hs hx hq (fun x hx => by simpa using List.all_eq_true.1 hnl x hx) (fun w L' hF hS hj => Wr hS ((hj k (by simp)).trans hk) hcs hnl)
  (fun x hx u hu => List.all_eq_true.1 (List.all_eq_true.1 h1 x hx) u hu) (List.map_append (f := f) (l₁ := ys) (l₂ := ls)).symm (by rw [List.length_append, ← hq, List.length_map]) (by
   have hb : 1 ≤ by_ := by have : 0 < by_ := by simpa using hb0
                           omega
   have : (ys ++ ls).length * 1 ≤ (ys ++ ls).length * by_ := Nat.mul_le_mul_left _ hb
   omega) h63
theorem capOf {w : World} {i E sz n c : Nat} {a : Option Addr} {xs : List (List Value)} (hS : Sat cx w L) (hL : L[i]? = some (Js E sz (.slice a n c) n xs)) : n ≤ c := by
 obtain ⟨S, ⟨⟨h1, h2, h3⟩, _⟩, _⟩ := hS.at hL
 rcases h1.2 with ⟨hv, h0⟩ | ⟨g, cap, cur, hv, _, hh, hnc, _⟩
 ·simp only [Value.slice.injEq] at hv; omega
 ·simp only [Value.slice.injEq] at hv; omega
theorem own_cut {a : Option Addr} {m c l : Nat} (sz : Nat) {x y : Nat} : (Value.slice (Q7 a l m sz) x c).ownBlock = (Value.slice a y c).ownBlock := by
 unfold Q7
 cases a with
 | none => split <;> rfl
 | some a =>
  split
  ·rfl
  ·simp only [Value.ownBlock, Option.map_some, Addr.add]
   split <;> rfl
theorem imp_box {b m sz : Nat} {cs : List Value} {T E : TypeId} {xs : List (List Value)} (hT : T = E) (hcs : xs.flatten = cs) (hl : (xs.all fun x => Nat.beq x.length sz) = true) (hm : xs.length = m ∧ m ≤ 9223372036854775807) :
  Imp (Jg b cs T) (Js E sz (.slice (some ⟨b, 0, none⟩) m m) m xs) := ⟨fun S w h => by
 subst hT hcs
 have hl' : ∀ x ∈ xs, x.length = sz := fun x hx => by simpa using List.all_eq_true.1 hl x hx
 have hf := Yf xs hl'
 refine ⟨⟨⟨by rw [hf, hm.1], .inr ⟨b, m, _, rfl, Nat.zero_le _, h.2, Nat.le_refl _, by simpa [maxLen] using hm.2, by simp [hf, hm.1], ?_⟩⟩, hm.1, hl'⟩, fun c hc => ?_⟩
 ·rw [List.toList_toArray, List.take_of_length_le (by rw [hf, hm.1]; omega)]
 ·simp [Value.ownBlock] at hc; exact (h.1 c).2 hc.symm⟩
end rules
end Go.Vc

/- Stores into rows, strings. Conditions: those that each rule names. -/
namespace Go.Vc
open Go
section rules
variable {P : Program} {n : Nat} {cx : Cx} {Q : U4} {e : Xb} {L : List Chunk} {ops : Array Oper} {F : Xb → List Chunk → Prop} {rest : List Oper} {ss : List Kd}
variable {d : Nat} {ty : TypeId} {pos : String} {af : Array Edge} {g : Option (Nat × Bool)}
theorem flatten_set {sz : Nat} : ∀ (xs : List (List Value)) (i : Nat) (x : List Value), (∀ x ∈ xs, x.length = sz) → i < xs.length → (xs.set i x).flatten = xs.flatten.take (i * sz) ++ x ++ xs.flatten.drop ((i + 1) * sz)
 | [], i, x, _, h => by simp at h
 | y :: r, 0, x, hl, _ => by
  have hy := hl y (by simp)
  simp [hy.symm]
 | y :: r, i + 1, x, hl, h => by
  have hy := hl y (by simp)
  have ih := flatten_set r i x (fun z hz => hl z (by simp [hz])) (by simpa using h)
  have e1 : (y ++ r.flatten).take ((i + 1) * sz) = y ++ r.flatten.take (i * sz) := by
   rw [List.take_append, List.take_of_length_le (l := y) (by rw [Nat.succ_mul]; omega), show (i + 1) * sz - y.length = i * sz from by rw [Nat.succ_mul]; omega]
  have e2 : (y ++ r.flatten).drop ((i + 1 + 1) * sz) = r.flatten.drop ((i + 1) * sz) := by
   rw [List.drop_append, List.drop_of_length_le (l := y) (by rw [Nat.succ_mul]; omega), show (i + 1 + 1) * sz - y.length = (i + 1) * sz from by rw [Nat.succ_mul (i + 1)]; omega, List.nil_append]
  rw [List.set_cons_succ, List.flatten_cons, ih, List.flatten_cons, e1, e2]
  simp
theorem flat_at {sz : Nat} (xs : List (List Value)) (i : Nat) (x : List Value) (hl : ∀ x ∈ xs, x.length = sz) (hx : xs[i]? = some x) : x = (xs.flatten.drop (i * sz)).take sz := by
 have hxl := hl x (List.mem_of_getElem? hx)
 refine List.ext_getElem? fun j => ?_
 rcases Nat.lt_or_ge j x.length with hj | hj
 ·have := row_get xs i x (List.all_eq_true.2 fun y hy => by simpa using hl y hy) hx j x[j] (by simp [hj])
  rw [List.getElem?_take, if_pos (by omega), List.getElem?_drop, this]
  simp [hj]
 ·rw [List.getElem?_eq_none hj, List.getElem?_take, if_neg (by omega)]
theorem set_cells {sz m i j : Nat} {cur vs : List Value} {xs : List (List Value)} {x x' : List Value} (hl : ∀ x ∈ xs, x.length = sz) (ht : cur.take (m * sz) = xs.flatten) (hm : xs.length = m) (hx : xs[i]? = some x) (hc : m * sz ≤ cur.length)
  (h1 : j + vs.length ≤ x.length) (h2 : x' = x.take j ++ vs ++ x.drop (j + vs.length)) :
  (cur.take (i * sz + j) ++ vs ++ cur.drop (i * sz + j + vs.length)).take (m * sz) = (xs.set i x').flatten := by
 have hi : i < xs.length := by
  rcases Nat.lt_or_ge i xs.length with h | h
  ·exact h
  ·simp [List.getElem?_eq_none h] at hx
 have hxl := hl x (List.mem_of_getElem? hx)
 have hle : (i + 1) * sz ≤ m * sz := Nat.mul_le_mul_right _ (by omega)
 rw [Nat.succ_mul] at hle
 have hfx := flat_at xs i x hl hx
 rw [flatten_set xs i x' hl hi, h2, ← ht]
 rw [← ht] at hfx
 have hTl : (cur.take (m * sz)).length = m * sz := by simp; omega
 generalize hT : cur.take (m * sz) = T at *
 have hcur : cur = T ++ cur.drop (m * sz) := by rw [← hT, List.take_append_drop]
 have hTs : T = T.take (i * sz) ++ (x ++ T.drop ((i + 1) * sz)) := by
  conv => lhs; rw [← List.take_append_drop (i * sz) T]
  rw [hfx]
  congr 1
  rw [Nat.succ_mul, ← List.drop_drop, List.take_append_drop]
 have e1 : cur.take (i * sz + j) = T.take (i * sz) ++ x.take j := by
  rw [hcur, List.take_append_of_le_length (by omega)]
  conv => lhs; rw [hTs]
  rw [List.take_append, List.take_of_length_le (by simp; omega), List.length_take, Nat.min_eq_left (by omega), Nat.add_sub_cancel_left, List.take_append_of_le_length (by omega)]
 have e2 : cur.drop (i * sz + j + vs.length) = x.drop (j + vs.length) ++ (T.drop ((i + 1) * sz) ++ cur.drop (m * sz)) := by
  conv => lhs; rw [hcur, List.drop_append_of_le_length (by omega), hTs]
  rw [List.drop_append, List.drop_of_length_le (l := T.take (i * sz)) (by simp; omega), List.length_take, Nat.min_eq_left (by omega), Nat.add_assoc, Nat.add_sub_cancel_left, List.nil_append, List.drop_append_of_le_length (by omega)]
  simp
 rw [e1, e2]
 have e3 : T.take (i * sz) ++ List.take j x ++ vs ++ (List.drop (j + vs.length) x ++ (List.drop ((i + 1) * sz) T ++ List.drop (m * sz) cur)) = (T.take (i * sz) ++ (x.take j ++ vs ++ x.drop (j + vs.length)) ++ T.drop ((i + 1) * sz)) ++ cur.drop (m * sz) := by simp
 rw [e3, List.take_append_of_le_length, List.take_of_length_le]
 ·simp only [List.length_append, List.length_take, List.length_drop]; rw [Nat.succ_mul]; omega
 ·simp only [List.length_append, List.length_take, List.length_drop]; rw [Nat.succ_mul]; omega
theorem run_storeR {T i j sz szT k m c : Nat} {A X : Operand} {x : Value} {a : Option Addr} {y y' vs : List Value} {xs : List (List Value)} {E : TypeId} {w : World} (hs : ∀ w, (sizeOf T).run P w = .ok szT w) (hp : ev e A = Wy a k) (hk : k = i * sz + j) (hx : ev e X = x) (hc : x.cells.toList = vs) (hsz : vs.length = szT)
  (hpos : Nat.blt 0 szT = true) (hone : vs.all Value.oneCell' = true) (hy : xs[i]? = some y) (hv : wr y j vs = some y') (ho : w.ownsRow 0 E sz (.slice a m c) m xs.flatten) (hm : xs.length = m) (hl : ∀ x ∈ xs, x.length = sz) :
  ∃ w', (execOp (ev e) ⟨none, .store T A X, ty, pos, af, g⟩).run P w = .ok .skip w' ∧ w'.ownsRow 0 E sz (.slice a m c) m (xs.set i y').flatten ∧ w.grownBy w' (Value.slice a m c).ownBlock := by
 have hpos' : 0 < vs.length := by rw [hsz]; simpa using hpos
 obtain ⟨h1, h2⟩ := wr_eq hv hpos'
 have hi : i < xs.length := by
  rcases Nat.lt_or_ge i xs.length with h | h
  ·exact h
  ·simp [List.getElem?_eq_none h] at hy
 rcases ho.2 with ⟨_, h0⟩ | ⟨g0, cap, cur, hv0, hb0, hh, hnc, hcm, hcs, htk⟩
 ·omega
 ·simp only [Value.slice.injEq] at hv0
  obtain ⟨rfl, _, rfl⟩ := hv0
  have hyl := hl y (List.mem_of_getElem? hy)
  have hcap : m * sz ≤ c * sz := Nat.mul_le_mul_right _ hnc
  have hle : (i + 1) * sz ≤ m * sz := Nat.mul_le_mul_right _ (by omega)
  rw [Nat.succ_mul] at hle
  have hst := run_storeCells_at P g0 k E vs 0 cur w hh (by rw [hk]; omega) (by simpa using hone)
  have hsz' : x.cells.size = szT := by rw [← hsz, ← hc]; simp
  have hp' : ev e A = .pointer (some ⟨g0, k, none⟩) := by rw [hp]; simp [Wy]
  simp only [Nat.add_zero] at hst
  refine ⟨w.setRow g0 (cur.toList.take k ++ vs ++ cur.toList.drop (k + vs.length)).toArray, by
   simp only [execOp, Instr.storeAt, Instr.sureAddr, storeVar, hp', hx, Sem.run_bind, Sem.run_pure, Result.andThen_ok, hs, hsz', ne_eq, not_true_eq_false, if_false, hc, hst], ⟨?_, .inr ⟨g0, c, _, rfl, hb0, setRow_heap w g0 cur _ E _ hh, hnc, hcm, ?_, ?_⟩⟩, ⟨rfl, rfl, rfl, by simp, fun b _ hb => setRow_other w g0 b _ (fun e => hb (by simp [Value.ownBlock, e]))⟩⟩
  ·rw [Yf (sz := sz) _ (by
    intro z hz
    rcases List.mem_or_eq_of_mem_set hz with h | h
    ·exact hl z h
    ·subst h; rw [h2]; simp only [List.length_append, List.length_take, List.length_drop]; omega)]
   simp [hm]
  ·simp only [List.size_toArray, List.length_append, List.length_take, List.length_drop, Array.length_toList, hcs]
   rw [hk]; omega
  ·rw [List.toList_toArray, hk]
   exact set_cells hl htk hm hy (by simpa [hcs] using hcap) h1 h2
theorem l_storeR {q T i j sz szT k m c : Nat} {A X : Operand} {x : Value} {a : Option Addr} {y y' vs : List Value} {xs xs' : List (List Value)} {E : TypeId} (hs : ∀ w, (sizeOf T).run P w = .ok szT w)
  (hw : Xw ops ⟨none, .store T A X, ty, pos, af, g⟩ e = true) (hp : ev e A = Wy a k) (hk : k = i * sz + j) (hx : ev e X = x) (hc : x.cells.toList = vs) (hsz : vs.length = szT)
  (hpos : Nat.blt 0 szT = true) (hone : vs.all Value.oneCell' = true) (hL : L[q]? = some (Js E sz (.slice a m c) m xs)) (hy : xs[i]? = some y) (hv : wr y j vs = some y') (hxs : xs.set i y' = xs')
  (k' : At cx (WL P n ops Q rest) e (L.set q (Js E sz (.slice a m c) m xs'))) : At cx (WL P n ops Q (⟨none, .store T A X, ty, pos, af, g⟩ :: rest)) e L :=
 l_acts hw rfl fun w hF hS => by
  obtain ⟨S0, ⟨⟨ho, hlen, hlx⟩, hob⟩, _⟩ := hS.at hL
  obtain ⟨w', hr, h2, h3⟩ := run_storeR (P := P) (ty := ty) (pos := pos) (af := af) (g := g) hs hp hk hx hc hsz hpos hone hy hv ho hlen hlx
  subst hxs
  have hpos' : 0 < vs.length := by rw [hsz]; simpa using hpos
  obtain ⟨g1, g2⟩ := wr_eq hv hpos'
  obtain ⟨hF', hS'⟩ := hS.turnOf hF hL (C := Js E sz (.slice a m c) m (xs.set i y')) fun S1 hp => Vw hp.2 h2 h3 (.inl rfl) (by simp [hlen]) (by
   intro z hz
   rcases List.mem_or_eq_of_mem_set hz with h | h
   ·exact hlx z h
   ·subst h; rw [g2]; have := hlx y (List.mem_of_getElem? hy); simp only [List.length_append, List.length_take, List.length_drop]; omega)
  exact ⟨w', hr, k'.out w' hF' hS'⟩
theorem Qp {T : TypeId} {I : TypeInfo} (h : ∀ w, (typeInfo T).run P w = .ok I w) : P.info? T = some I := by
 have := h default
 unfold typeInfo at this
 cases hi : P.info? T with
 | none => simp [hi] at this
 | some J => simp [hi] at this; rw [this]
theorem r_indexA {d : Option Nat} {t u len sz : Nat} {X I : Operand} {cs : Array Value} {k : IntKind} {i : Int} {v : Value} (hu : ∀ w, (underlying t).run P w = .ok (.array len u) w) (hA : ∀ w, (isAgg u).run P w = .ok false w) (hs : ∀ w, (sizeOf u).run P w = .ok sz w)
  (hx : ev e X = .agg cs) (hi : ev e I = .int k i) (h0 : 0 ≤ i) (h1 : i < len) (hv : cs[i.toNat * sz]? = some v) (w : World) :
  (execOp (ev e) ⟨d, .index t X I, ty, pos, af, g⟩).run P w = .ok (.value v) w := by
 simp [execOp, Instr.index, asIntOf, hx, hi, hu, hs, h0, h1, part, hA, hv]
theorem Vd {d : Option Nat} {t u len sz b o : Nat} {X I : Operand} {k : IntKind} {i : Int} (hu : ∀ w, (underlying t).run P w = .ok (.array len u) w) (hs : ∀ w, (sizeOf u).run P w = .ok sz w)
  (hx : ev e X = .pointer (some ⟨b, o, none⟩)) (hi : ev e I = .int k i) (h0 : 0 ≤ i) (h1 : i < len) (w : World) :
  (execOp (ev e) ⟨d, .indexAddr t X I, ty, pos, af, g⟩).run P w = .ok (.value (.pointer (some ⟨b, o + i.toNat * sz, none⟩))) w := by
 simp [execOp, Instr.indexAt, Instr.sureAddr, hx, hi, asIntOf, hu, h0, h1, hs, Addr.add_lit]
theorem r_buildA {d : Option Nat} {t u len sz : Nat} {parts : Array (Nat × Operand)} {z cells : Array Value} {ps : List (Nat × Value)} (hz : ∀ w, (zeroValue t).run P w = .ok (.agg z) w) (hu : ∀ w, (underlying t).run P w = .ok (.array len u) w) (hs : ∀ w, (sizeOf u).run P w = .ok sz w)
  (hps : parts.toList.map (fun (i, x) => (i, ev e x)) = ps) (hf : Instr.fill (fun i => some (i * sz, sz)) z ps = some cells) (w : World) :
  (execOp (ev e) ⟨d, .build t parts, ty, pos, af, g⟩).run P w = .ok (.value (.agg cells)) w := by
 have hz' : (Value.agg z).cells = z := rfl
 have hps' : (parts.map fun (i, x) => (i, ev e x)).toList = ps := by rw [← hps, Array.toList_map]
 simp only [execOp, Instr.build, Sem.run_bind, hz, hu, hs, Result.andThen_ok, hps', hz', hf, Sem.run_pure]
abbrev str (s : List UInt8) : Value := .string ⟨s.toArray⟩
theorem bytes_list (s : List UInt8) : (ByteArray.mk s.toArray).toList = s := by rw [ByteArray.toList_eq]
theorem Vn {d : Option Nat} {X : Operand} {s : List UInt8} {t : TypeId} (hu : P.underlying t = some .string) (hx : ev e X = str s) (w : World) :
  (execOp (ev e) ⟨d, .call ⟨.builtin .len, #[X], #[t]⟩, ty, pos, af, g⟩).run P w = .ok (.value (.int .i64 s.length)) w := by
 rw [r_lenS hu hx]; rfl
theorem r_concat {d : Option Nat} {t t' : TypeId} {X Y : Operand} {a b : List UInt8} (hx : ev e X = str a) (hy : ev e Y = str b) (hl : a.length + b.length ≤ 9223372036854775807) (w : World) :
  (execOp (ev e) ⟨d, .binOp .add t X Y t', ty, pos, af, g⟩).run P w = .ok (.value (str (a ++ b))) w := by
 have h := run_string_add_sum (P := P) w (ByteArray.mk a.toArray) (ByteArray.mk b.toArray) (by simpa [ByteArray.size] using hl)
 simp [execOp, hx, hy, eqGuard, binOp_string_add, h, ByteArray.mk_append_mk]
theorem r_eqlT {d : Option Nat} {t t' : TypeId} {X Y : Operand} {a b : List UInt8} (hx : ev e X = str a) (hy : ev e Y = str b) (w : World) :
  (execOp (ev e) ⟨d, .binOp .eql t X Y t', ty, pos, af, g⟩).run P w = .ok (.value (.bool (decide (a = b)))) w := by
 have : (a == b) = decide (a = b) := by rw [Bool.eq_iff_iff]; simp
 simp [execOp, hx, hy, eqGuard, binOp_string_eql, this]
theorem r_neqT {d : Option Nat} {t t' : TypeId} {X Y : Operand} {a b : List UInt8} (hx : ev e X = str a) (hy : ev e Y = str b) (w : World) :
  (execOp (ev e) ⟨d, .binOp .neq t X Y t', ty, pos, af, g⟩).run P w = .ok (.value (.bool (decide (a ≠ b)))) w := by
 have : (a == b) = decide (a = b) := by rw [Bool.eq_iff_iff]; simp
 simp [execOp, hx, hy, eqGuard, binOp_string_neq, this]
theorem r_indexT {d : Option Nat} {t : TypeId} {X I : Operand} {s : List UInt8} {k : IntKind} {i : Int} (hu : P.underlying t = some .string) (hx : ev e X = str s) (hi : ev e I = .int k i) (h0 : 0 ≤ i) (h1 : i < s.length) (w : World) :
  (execOp (ev e) ⟨d, .index t X I, ty, pos, af, g⟩).run P w = .ok (.value (.int .u8 ((s.getD i.toNat 0).toNat : Nat))) w := by
 have hlt : i.toNat < s.length := by omega
 have h : (0 ≤ i ∧ i < ((ByteArray.mk s.toArray).size : Nat)) := ⟨h0, by simpa [ByteArray.size] using h1⟩
 simp only [execOp, hx, hi, Sem.run_bind, run_index_string w t _ k i hu, dif_pos h, Result.andThen_ok, Sem.run_pure]
 have : (ByteArray.mk s.toArray)[i.toNat]'(by simpa [ByteArray.size] using hlt) = s.getD i.toNat 0 := by
  rw [List.getD_eq_getElem?_getD, List.getElem?_eq_getElem hlt]; rfl
 rw [this]
theorem extract_list (s : List UInt8) (a b : Nat) : (ByteArray.mk s.toArray).extract a b = ByteArray.mk ((s.drop a).take (b - a)).toArray := ByteArray.extract_mk s a b
theorem r_cutT {d : Option Nat} {t : TypeId} {X A B : Operand} {s : List UInt8} {ka kb : IntKind} {l h : Int} (hu : P.underlying t = some .string) (hx : ev e X = str s) (ha : ev e A = .int ka l) (hb : ev e B = .int kb h) (h0 : 0 ≤ l) (h1 : l ≤ h) (h2 : h ≤ s.length) (w : World) :
  (execOp (ev e) ⟨d, .slice t X (some A) (some B) none, ty, pos, af, g⟩).run P w = .ok (.value (str ((s.drop l.toNat).take (h.toNat - l.toNat)))) w := by
 have h' := run_slice_string (P := P) w t (ByteArray.mk s.toArray) ka kb l h hu h0 h1 (by simpa [ByteArray.size] using h2)
 simp only [execOp, Option.map_some, Option.map_none, hx, ha, hb, Sem.run_bind, run_sliceAt_string w t _ _ _ _ hu, h', Result.andThen_ok, Sem.run_pure, extract_list]
theorem r_cutTo {d : Option Nat} {t : TypeId} {X B : Operand} {s : List UInt8} {kb : IntKind} {h : Int} (hu : P.underlying t = some .string) (hx : ev e X = str s) (hb : ev e B = .int kb h) (h0 : 0 ≤ h) (h2 : h ≤ s.length) (w : World) :
  (execOp (ev e) ⟨d, .slice t X none (some B) none, ty, pos, af, g⟩).run P w = .ok (.value (str (s.take h.toNat))) w := by
 have h' := run_slice_string_to_if (P := P) w t (ByteArray.mk s.toArray) kb h hu
 rw [if_pos ⟨h0, by simpa [ByteArray.size] using h2⟩] at h'
 simp only [execOp, Option.map_some, Option.map_none, hx, hb, Sem.run_bind, run_sliceAt_string w t _ _ _ _ hu, h', Result.andThen_ok, Sem.run_pure, extract_list, List.drop_zero, Nat.sub_zero]
theorem r_cutFrom {d : Option Nat} {t : TypeId} {X A : Operand} {s : List UInt8} {ka : IntKind} {l : Int} (hu : P.underlying t = some .string) (hx : ev e X = str s) (ha : ev e A = .int ka l) (h0 : 0 ≤ l) (h2 : l ≤ s.length) (w : World) :
  (execOp (ev e) ⟨d, .slice t X (some A) none none, ty, pos, af, g⟩).run P w = .ok (.value (str (s.drop l.toNat))) w := by
 have h' := run_slice_string_from_if (P := P) w t (ByteArray.mk s.toArray) ka l hu
 rw [if_pos ⟨h0, by simpa [ByteArray.size] using h2⟩] at h'
 have hs : (ByteArray.mk s.toArray).size = s.length := by simp [ByteArray.size]
 simp only [execOp, Option.map_some, Option.map_none, hx, ha, Sem.run_bind, run_sliceAt_string w t _ _ _ _ hu, h', Result.andThen_ok, Sem.run_pure, extract_list, hs]
 rw [List.take_of_length_le (by simp)]
end rules
abbrev encS (s : List UInt8) : List Value := [str s]
end Go.Vc

/- Walks that are led by a model: the rules for single operations, loops and joins, each with the guard that the model names. Conditions: none. -/
namespace Go.Lx
open Go Go.Vc Go.Md
abbrev Jo := Nat → Option Obj
def Know (h : Jo) (w : World) (S : Nat → Prop) : Prop := ∀ b o, h b = some o → w.heap[b]? = some o ∧ ¬ S b
theorem Know.now {h : Jo} {w0 w : World} {S : Nat → Prop} (k : Know h w0 S) (hF : Fr ⟨w0, S⟩ w) (b : Nat) (o : Obj) (hb : h b = some o) : w.heap[b]? = some o := by
 obtain ⟨h1, h2⟩ := k b o hb
 have hlt : b < w0.heap.size := by
  rcases Nat.lt_or_ge b w0.heap.size with h | h
  ·exact h
  ·rw [Array.getElem?_eq_none h] at h1; cases h1
 have hn : ¬ (Cx.own ⟨w0, S⟩ b) := by
  rintro (h | h)
  ·exact absurd h (by show ¬ w0.heap.size ≤ b; omega)
  ·exact h2 h
 rw [hF.block b hn]
 exact h1
def RowH (h : Jo) (a : Option Addr) (sz : Nat) (xs : List (List Value)) : Prop :=
 xs = [] ∨ ∃ b off cs T m, a = some ⟨b, off, none⟩ ∧ h b = some (.cells cs T m) ∧ ∀ (i : Nat) (x : List Value), xs[i]? = some x → x.length = sz ∧ ∀ (j : Nat) (v : Value), x[j]? = some v → cs[off + i * sz + j]? = some v
theorem RowH.row {h : Jo} {w : World} {a : Option Addr} {sz : Nat} {xs : List (List Value)} (r : RowH h a sz xs) (k : ∀ b o, h b = some o → w.heap[b]? = some o) : Row w a sz xs := by
 rcases r with r | ⟨b, off, cs, T, m, ha, hb, r⟩
 ·exact .inl r
 ·refine .inr ⟨b, off, ha, fun i x hx => ⟨(r i x hx).1, fun j v hv => ?_⟩⟩
  have := (r i x hx).2 j v hv
  simp [World.cell?, k b _ hb, this]
structure FrS (h : Jo) (sz : Nat) (v : Value) (xs : List (List Value)) : Prop where
 out : ∃ a c, v = .slice a xs.length c ∧ xs.length ≤ c ∧ c ≤ 9223372036854775807 ∧ RowH h a sz xs
def sa : Value → Option Addr | .slice a _ _ => a | _ => none
def sc : Value → Nat | .slice _ _ c => c | _ => 0
theorem FrS.eq {h : Jo} {sz : Nat} {v : Value} {xs : List (List Value)} (f : FrS h sz v xs) : v = .slice (sa v) xs.length (sc v) := by
 obtain ⟨a, c, rfl, _⟩ := f.out; rfl
theorem FrS.len {h : Jo} {sz : Nat} {v : Value} {xs : List (List Value)} (f : FrS h sz v xs) : xs.length ≤ sc v ∧ sc v ≤ 9223372036854775807 := by
 obtain ⟨a, c, rfl, h1, h2, _⟩ := f.out; exact ⟨h1, h2⟩
theorem FrS.row {h : Jo} {sz : Nat} {v : Value} {xs : List (List Value)} (f : FrS h sz v xs) {w : World} (k : ∀ b o, h b = some o → w.heap[b]? = some o) : Row w (sa v) sz xs := by
 obtain ⟨a, c, rfl, _, _, r⟩ := f.out; exact r.row k
theorem FrS.nil (h : Jo) (sz : Nat) : FrS h sz (.slice none 0 0) [] := ⟨none, 0, rfl, by simp, by simp, .inl rfl⟩
theorem RowH.cut {h : Jo} {a : Option Addr} {sz : Nat} {xs : List (List Value)} (r : RowH h a sz xs) (l q m : Nat) (hq : l + q ≤ m) : RowH h (Q7 a l m sz) sz ((xs.drop l).take q) := by
 rcases r with r | ⟨b, off, cs, T, m', rfl, hb, r⟩
 ·subst r; exact .inl (by simp)
 ·unfold Q7
  by_cases hm : m = l
  ·have hq0 : q = 0 := by omega
   subst hq0
   exact .inl (by simp)
  ·rw [if_neg hm]
   refine .inr ⟨b, off + l * sz, cs, T, m', by simp [Addr.add_lit], hb, fun i x hx => ?_⟩
   rw [List.getElem?_take] at hx
   split at hx
   ·rw [List.getElem?_drop] at hx
    obtain ⟨h1, h2⟩ := r (l + i) x hx
    refine ⟨h1, fun j v hv => ?_⟩
    have := h2 j v hv
    rw [show off + l * sz + i * sz + j = off + (l + i) * sz + j from by rw [Nat.add_mul]; omega]
    exact this
   ·cases hx
def cutV (sz : Nat) (v : Value) (l h : Int) : Value := .slice (Q7 (sa v) l.toNat (sc v) sz) (h.toNat - l.toNat) (sc v - l.toNat)
theorem FrS.cut {α : Type} {h : Jo} {sz : Nat} {v : Value} {f : α → List Value} {xs ys : List α} {l q : Int} (s : FrS h sz v (xs.map f)) (e : Yu xs l q = some ys) : FrS h sz (cutV sz v l q) (ys.map f) := by
 obtain ⟨a, c, rfl, h1, h2, r⟩ := s.out
 obtain ⟨g0, g1, g2, rfl⟩ := Y3 e
 have hl : ((xs.drop l.toNat).take (q.toNat - l.toNat)).length = q.toNat - l.toNat := by
  rw [List.length_take, List.length_drop]; omega
 simp only [List.length_map] at h1
 refine ⟨⟨Q7 a l.toNat c sz, c - l.toNat, ?_, ?_, by omega, ?_⟩⟩
 ·simp only [cutV, sa, sc, List.length_map, hl]
 ·rw [List.length_map, hl]; omega
 ·rw [List.map_take, List.map_drop]
  exact r.cut _ _ _ (by omega)
theorem FrS.mono {h h' : Jo} {sz : Nat} {v : Value} {xs : List (List Value)} (s : FrS h sz v xs) (le : ∀ b o, h b = some o → h' b = some o) : FrS h' sz v xs := by
 obtain ⟨a, c, rfl, h1, h2, r⟩ := s.out
 refine ⟨a, c, rfl, h1, h2, ?_⟩
 rcases r with r | ⟨b, off, cs, T, m, ha, hb, r⟩
 ·exact .inl r
 ·exact .inr ⟨b, off, cs, T, m, ha, le b _ hb, r⟩
section ops
variable {P : Program} {e : Xb} {d : Option Nat} {ty : TypeId} {pos : String} {af : Array Edge} {g : Option (Nat × Bool)}
section bin
variable {X Y : Operand} {x y z : Int} {t t' : TypeId} {kd k2 : IntKind}
theorem J1 (hx : ev e X = .int .i64 x) (hy : ev e Y = .int .i64 y) (h : gI (x + y) = some z) (w : World) :
  (execOp (ev e) ⟨d, .binOp .add t X Y t', ty, pos, af, g⟩).run P w = .ok (.value (.int .i64 z)) w := by
 obtain ⟨rfl, hb⟩ := gI_some h; exact r_add hx hy hb w
theorem Vh (hx : ev e X = .int .i64 x) (hy : ev e Y = .int .i64 y) (h : gI (x - y) = some z) (w : World) :
  (execOp (ev e) ⟨d, .binOp .sub t X Y t', ty, pos, af, g⟩).run P w = .ok (.value (.int .i64 z)) w := by
 obtain ⟨rfl, hb⟩ := gI_some h; exact r_sub hx hy hb w
theorem V5 (hx : ev e X = .int .i64 x) (hy : ev e Y = .int .i64 y) (h : gI (x * y) = some z) (w : World) :
  (execOp (ev e) ⟨d, .binOp .mul t X Y t', ty, pos, af, g⟩).run P w = .ok (.value (.int .i64 z)) w := by
 obtain ⟨rfl, hb⟩ := gI_some h; exact r_mul hx hy hb w
theorem r_quoG (hx : ev e X = .int .i64 x) (hy : ev e Y = .int .i64 y) (h : gQuo x y = some z) (w : World) :
  (execOp (ev e) ⟨d, .binOp .quo t X Y t', ty, pos, af, g⟩).run P w = .ok (.value (.int .i64 z)) w := by
 obtain ⟨h0, rfl, hb⟩ := gQuo_some h
 exact r_bin hx hy (fun w => by simp [binOp, Op.intDiv, h0, IntWalk.i64_in _ hb]) w
theorem r_remG (hx : ev e X = .int kd x) (hy : ev e Y = .int kd y) (h : gRem x y = some z) (w : World) :
  (execOp (ev e) ⟨d, .binOp .rem t X Y t', ty, pos, af, g⟩).run P w = .ok (.value (.int kd z)) w := by
 obtain ⟨h0, rfl⟩ := gRem_some h; exact r_rem hx hy h0 w
end bin
theorem r_negG {X : Operand} {x z : Int} {t : TypeId} (hx : ev e X = .int .i64 x) (h : gI (-x) = some z) (w : World) :
  (execOp (ev e) ⟨d, .unOp .neg t X, ty, pos, af, g⟩).run P w = .ok (.value (.int .i64 z)) w := by
 obtain ⟨rfl, hb⟩ := gI_some h
 have h0 : IntKind.i64.wrap (0 - x) = -x := by rw [IntWalk.i64_in _ (by omega)]; omega
 simp [execOp, hx, Op.unary, Op.intArith] ; simpa using h0
theorem Wu {X : Operand} {t u sz : TypeId} {h : Jo} {v : Value} {xs : List (List Value)} {α : Type} {ys : List α} {f : α → List Value} (hu : P.underlying t = some (.slice u)) (hx : ev e X = v) (hs : FrS h sz v xs) (hxs : xs = ys.map f) (w : World) :
  (execOp (ev e) ⟨d, .call ⟨.builtin .len, #[X], #[t]⟩, ty, pos, af, g⟩).run P w = .ok (.value (.int .i64 ys.length)) w := by
 have := Uf (P := P) (d := d) (ty := ty) (pos := pos) (af := af) (g := g) hu (hx.trans hs.eq) w
 rw [this, hxs, List.length_map]
theorem Xq {X I : Operand} {t u sz : Nat} {h : Jo} {v : Value} {α : Type} {f : α → List Value} {xs : List α} {x : α} {k : IntKind} {i : Int} (hu : P.underlying t = some (.slice u)) (hs : ∀ w, (sizeOf u).run P w = .ok sz w)
  (hx : ev e X = v) (hi : ev e I = .int k i) (hf : FrS h sz v (xs.map f)) (hg : Yp xs i = some x) (w : World) :
  (execOp (ev e) ⟨d, .indexAddr t X I, ty, pos, af, g⟩).run P w = .ok (.value (Wy (sa v) (i.toNat * sz))) w := by
 obtain ⟨h0, h1, h2⟩ := Y9 hg
 obtain ⟨a, c, rfl, _, _, r⟩ := hf.out
 have ha : ∃ b off, a = some ⟨b, off, none⟩ := by
  rcases r with r | ⟨b, off, cs, T, m, ha, _⟩
  ·simp at r; subst r; simp at h1
  ·exact ⟨b, off, ha⟩
 exact r_index hu hs hx hi ha h0 (by rw [List.length_map]; omega) w
theorem some_of_at {h : Jo} {sz : Nat} {v : Value} {α : Type} {f : α → List Value} {xs : List α} {x : α} {i : Int} (hf : FrS h sz v (xs.map f)) (hg : Yp xs i = some x) : ∃ b off, sa v = some ⟨b, off, none⟩ := by
 obtain ⟨h0, h1, h2⟩ := Y9 hg
 obtain ⟨a, c, rfl, _, _, r⟩ := hf.out
 rcases r with r | ⟨b, off, cs, T, m, ha, _⟩
 ·simp at r; subst r; simp at h1
 ·exact ⟨b, off, ha⟩
theorem map_at {α : Type} {f : α → List Value} {xs : List α} {x : α} {i : Int} (hg : Yp xs i = some x) : (xs.map f)[i.toNat]? = some (f x) := by
 obtain ⟨h0, h1, h2⟩ := Y9 hg
 rw [List.getElem?_map, h2]; rfl
theorem Zt {X I : Operand} {a : Option Addr} {m c : Nat} {t u sz sz' : Nat} {k : IntKind} {i : Int} {α : Type} {f : α → List Value} {xs : List α} {x : α} {w : World} (hu : P.underlying t = some (.slice u)) (hs : ∀ w, (sizeOf u).run P w = .ok sz w)
  (hx : ev e X = .slice a m c) (hi : ev e I = .int k i) (hR : Row w a sz' (xs.map f)) (hm : m = xs.length) (hg : Yp xs i = some x) :
  (execOp (ev e) ⟨d, .indexAddr t X I, ty, pos, af, g⟩).run P w = .ok (.value (Wy a (i.toNat * sz))) w := by
 obtain ⟨h0, h1, h2⟩ := Y9 hg
 exact r_index hu hs hx hi (hR.some (i := i.toNat) (by simpa using h1)) h0 (by omega) w
theorem Q9 {T k : Nat} {a : Option Addr} {A : Operand} {sz j : Nat} {α : Type} {f : α → List Value} {xs : List α} {x : α} {i : Int} {v : Value} {w : World} (hA : ∀ w, (isAgg T).run P w = .ok false w)
  (hp : ev e A = Wy a k) (hk : k = i.toNat * sz + j) (hr : Row w a sz (xs.map f)) (hg : Yp xs i = some x) (hv : rg (f x) j = some v) :
  (execOp (ev e) ⟨d, .load T A, ty, pos, af, g⟩).run P w = .ok (.value v) w :=
 run_loadP1 (i := i.toNat) (j := j) hA hp hk hr (map_at hg) hv
theorem Zb {T k m : Nat} {a : Option Addr} {A : Operand} {sz j : Nat} {α : Type} {f : α → List Value} {xs : List α} {x : α} {i : Int} {vs : List Value} {w : World} (hA : ∀ w, (isAgg T).run P w = .ok true w) (hs : ∀ w, (sizeOf T).run P w = .ok m w)
  (hp : ev e A = Wy a k) (hk : k = i.toNat * sz + j) (hr : Row w a sz (xs.map f)) (hg : Yp xs i = some x) (hv : rd (f x) j m = some vs) :
  (execOp (ev e) ⟨d, .load T A, ty, pos, af, g⟩).run P w = .ok (.value (.agg vs.toArray)) w :=
 run_loadPN (i := i.toNat) (j := j) hA hs hp hk hr (map_at hg) hv
theorem r_concatG {t t' : TypeId} {X Y : Operand} {a b c : List UInt8} (hx : ev e X = str a) (hy : ev e Y = str b) (h : gCat a b = some c) (w : World) :
  (execOp (ev e) ⟨d, .binOp .add t X Y t', ty, pos, af, g⟩).run P w = .ok (.value (str c)) w := by
 obtain ⟨rfl, hl⟩ := gCat_some h; exact r_concat hx hy hl w
theorem r_octG {t : TypeId} {X I : Operand} {s : List UInt8} {k : IntKind} {i c : Int} (hu : P.underlying t = some .string) (hx : ev e X = str s) (hi : ev e I = .int k i) (h : Ue s i = some c) (w : World) :
  (execOp (ev e) ⟨d, .index t X I, ty, pos, af, g⟩).run P w = .ok (.value (.int .u8 c)) w := by
 obtain ⟨h0, h1, rfl⟩ := gOct_some h; exact r_indexT hu hx hi h0 h1 w
theorem r_cutTG {t : TypeId} {X A B : Operand} {s u : List UInt8} {ka kb : IntKind} {l h : Int} (hu : P.underlying t = some .string) (hx : ev e X = str s) (ha : ev e A = .int ka l) (hb : ev e B = .int kb h) (hg : Yu s l h = some u) (w : World) :
  (execOp (ev e) ⟨d, .slice t X (some A) (some B) none, ty, pos, af, g⟩).run P w = .ok (.value (str u)) w := by
 obtain ⟨h0, h1, h2, rfl⟩ := Y3 hg; exact r_cutT hu hx ha hb h0 h1 h2 w
theorem r_cutToG {t : TypeId} {X B : Operand} {s u : List UInt8} {kb : IntKind} {h : Int} (hu : P.underlying t = some .string) (hx : ev e X = str s) (hb : ev e B = .int kb h) (hg : Yu s 0 h = some u) (w : World) :
  (execOp (ev e) ⟨d, .slice t X none (some B) none, ty, pos, af, g⟩).run P w = .ok (.value (str u)) w := by
 obtain ⟨h0, h1, h2, rfl⟩ := Y3 hg
 have := r_cutTo (P := P) (d := d) (ty := ty) (pos := pos) (af := af) (g := g) hu hx hb h1 h2 w
 simpa using this
theorem r_cutFromG {t : TypeId} {X A : Operand} {s u : List UInt8} {ka : IntKind} {l : Int} (hu : P.underlying t = some .string) (hx : ev e X = str s) (ha : ev e A = .int ka l) (hg : Yu s l s.length = some u) (w : World) :
  (execOp (ev e) ⟨d, .slice t X (some A) none none, ty, pos, af, g⟩).run P w = .ok (.value (str u)) w := by
 obtain ⟨h0, h1, h2, rfl⟩ := Y3 hg
 have := r_cutFrom (P := P) (d := d) (ty := ty) (pos := pos) (af := af) (g := g) hu hx ha h0 h1 w
 rw [this, List.take_of_length_le (by simp)]
end ops
section rules
variable {P : Program} {n : Nat} {cx : Cx} {Q : U4} {e : Xb} {L : List Chunk} {ops : Array Oper} {F : Xb → List Chunk → Prop} {rest : List Oper} {ss : List Kd}
structure RoundA {σ τ : Type} (cx : Cx) (st : σ → τ → List (Nat × Value)) (hp : σ → τ → List Chunk) (I : σ → τ → Nat → Prop) (m : Nat) (e : Xb) (w : World) : Prop where
 out : ∃ s t k, Agree e (st s t) ∧ Fr cx w ∧ Sat cx w (hp s t) ∧ I s t k ∧ k < m
theorem Zn {σ τ ρ : Type} {c : Code} {r : ρ} (B : (σ → Option ρ) → σ → Option ρ) (st : σ → τ → List (Nat × Value)) (hp : σ → τ → List Chunk) (G : σ → τ → Prop) (s0 : σ) (t0 : τ) (sel : List Nat)
  (H : V8 B s0 = some r) (hG : G s0 t0) (hst : Agree e (st s0 t0)) (hnd : sel.Nodup) (hL : sel.map (fun i => L[i]?) = (hp s0 t0).map some)
  (round : ∀ (s : σ) (t : τ) (m : Nat) (g : Xb), B (it B m) s = some r → G s t →
   At cx (WC P n c (ThenQ (RoundA cx st hp (fun s t k => it B k s = some r ∧ G s t) (m + 1)) Q)) (mkE (st s t) g) (hp s t)) :
  At cx (WC P n (.loop c) Q) e L :=
 ⟨fun w hF hS => ⟨fun a ha => by
  obtain ⟨m0, hm0⟩ := fix_it H
  refine wp_loop_ghost (fun m a' w' => ∃ e' s t, Sim n a' e' ∧ Agree e' (st s t) ∧ Fr cx w' ∧ Sat cx w' (hp s t) ∧ it B m s = some r ∧ G s t) m0 ⟨e, s0, t0, ha, hst, hF, hS.select sel hnd hL, hm0, hG⟩ ?_
  rintro m a w ⟨e', s, t, ha, hst, hF, hS, hI, hg⟩
  cases m with
  | zero => cases hI
  | succ m =>
   have hr := ((round s t m e' hI hg).out w hF hS).out a (by rw [mkE_self e' _ hst]; exact ha)
   refine wp_mono hr ?_
   rintro x a' w' ⟨e'', hs', hq⟩
   cases x with
   | normal =>
    obtain ⟨s', t', m', h1, h3, h4, ⟨h5, h7⟩, h6⟩ := hq.out
    exact ⟨m', h6, e'', s', t', hs', h1, h3, h4, h5, h7⟩
   | exit i => exact ⟨e'', hs', hq⟩
   | goto i => exact ⟨e'', hs', hq⟩
   | ret => exact ⟨e'', hs', hq⟩
   | panic i => exact ⟨e'', hs', hq⟩
   | outgrown => exact ⟨e'', hs', hq⟩⟩⟩
theorem c_close {σ τ : Type} {st : σ → τ → List (Nat × Value)} {hp : σ → τ → List Chunk} {I : σ → τ → Nat → Prop} {m : Nat} (s : σ) (t : τ) (k : Nat) (sel : List Nat) (hst : Agree e (st s t)) (hnd : sel.Nodup) (hL : sel.map (fun i => L[i]?) = (hp s t).map some) (hI : I s t k) (hm : k < m) :
  At cx (RoundA cx st hp I m) e L :=
 ⟨fun _ hF hS => ⟨s, t, k, hst, hF, hS.select sel hnd hL, hI, hm⟩⟩
theorem Q3 {σ τ ρ : Type} {x y : Code} {r : ρ} (J : σ → Option ρ) (st : σ → τ → List (Nat × Value)) (hp : σ → τ → List Chunk) (G : σ → τ → Prop)
  (h1 : At cx (WC P n x (ThenQ (RoundA cx st hp (fun s t _ => J s = some r ∧ G s t) 1) Q)) e L)
  (h2 : ∀ (s : σ) (t : τ) (g : Xb), J s = some r → G s t → At cx (WC P n y Q) (mkE (st s t) g) (hp s t)) : At cx (WC P n (.seq x y) Q) e L :=
 Jc ⟨fun w hF hS => ⟨fun a ha => Code.wp_mono (fun x' a' w' hq => by
  obtain ⟨e', hs, hq⟩ := hq
  cases x' with
  | normal =>
   obtain ⟨s, t, m, g1, g3, g4, ⟨g5, g7⟩, _⟩ := hq.out
   exact ⟨e', hs, by
    have := (h2 s t e' g5 g7).out w' g3 g4
    rwa [mkE_self e' _ g1] at this⟩
  | exit i => exact ⟨e', hs, hq⟩
  | goto i => exact ⟨e', hs, hq⟩
  | ret => exact ⟨e', hs, hq⟩
  | panic i => exact ⟨e', hs, hq⟩
  | outgrown => exact ⟨e', hs, hq⟩) ((h1.out w hF hS).out a ha)⟩⟩
theorem Jn (w : World) : Know (fun b => w.heap[b]?) w Y2 := fun b o h => ⟨h, fun x => x⟩
theorem Zm {α : Type} {w : World} {i E sz n : Nat} {p : Option Addr × Nat} {xs : List α} {f : α → List Value} (hn : n = xs.length) (hS : Sat cx w L) (hL : L[i]? = some (Js E sz (.slice p.1 n p.2) n (xs.map f))) : FrS (fun b => w.heap[b]?) sz (.slice p.1 n p.2) (xs.map f) := by
 subst hn
 obtain ⟨S, ⟨⟨h1, h2, h3⟩, _⟩, _⟩ := hS.at hL
 have hr := ownsRow_Row h1 h2 h3
 rcases h1.2 with ⟨hv, h0⟩ | ⟨g, cap, cur, hv, _, hh, hnc, hm, hcs, ht⟩
 ·simp only [Value.slice.injEq] at hv
  have hxs : xs = [] := List.eq_nil_of_length_eq_zero h0
  subst hxs
  refine ⟨⟨p.1, p.2, by simp, by simp, by omega, .inl (by simp)⟩⟩
 ·simp only [Value.slice.injEq] at hv
  obtain ⟨hp, _, hc⟩ := hv
  refine ⟨⟨p.1, p.2, by simp, by rw [List.length_map, hc]; exact hnc, by rw [hc]; simpa [maxLen] using hm, ?_⟩⟩
  rcases hr with hr | ⟨b, off, ha, hr⟩
  ·exact .inl hr
  ·rw [hp] at ha
   simp only [Option.some.injEq, Addr.mk.injEq] at ha
   obtain ⟨rfl, rfl, _⟩ := ha
   refine .inr ⟨g, 0, cur, E, _, hp, hh, fun i x hx => ⟨(hr i x hx).1, fun j v hv => ?_⟩⟩
   have := (hr i x hx).2 j v hv
   simpa [World.cell?, hh] using this
theorem frs_box {α : Type} {w : World} {i b m T sz : Nat} {cs : List Value} {xs : List α} {f : α → List Value} (hS : Sat cx w L) (hL : L[i]? = some (Jg b cs T)) (hcs : (xs.map f).flatten = cs) (hl : ((xs.map f).all fun x => Nat.beq x.length sz) = true) (hm : xs.length = m) (hm' : Nat.ble m 9223372036854775807 = true) :
  FrS (fun b => w.heap[b]?) sz (.slice (some ⟨b, 0, none⟩) m m) (xs.map f) := by
 subst hm
 refine ⟨⟨some ⟨b, 0, none⟩, xs.length, by simp, by simp, by simpa using hm', .inr ⟨b, 0, cs.toArray, T, (0, 0), rfl, Q8 hS hL, fun i x hx => ⟨?_, fun j v hv => ?_⟩⟩⟩⟩
 ·have := List.all_eq_true.1 hl x (List.mem_of_getElem? hx)
  simpa using this
 ·have := row_get _ i x hl hx j v hv
  rw [hcs] at this
  simpa using this
end rules
end Go.Lx
