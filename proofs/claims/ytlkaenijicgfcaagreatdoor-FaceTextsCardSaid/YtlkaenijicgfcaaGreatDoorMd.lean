/- Models: partial functions in plain Lean that stand for Go functions, the guards of single operations, and one way to loop and to recur. Conditions: none. -/
import GoSem.Step
import Derived.Shelf.Strings.Builder1
import Derived.Shelf.Strings.Builder2
import Derived.Shelf.Strings.OnBuilder
import Derived.Shelf.Strings.Trim
import Derived.Shelf.Small.Utf8
import Derived.Shelf.Small.Bits
import Derived.Shelf.Small.Strs
import Derived.Shelf.Small.Wraps
import Derived.Shelf.Strings.BuilderF
import Derived.Shelf.Strings.BuilderK
import Derived.Shelf.Utf8.RuneCount
import Derived.Shelf.Strings.Builder2Cap
import Derived.Shelf.Strconv.Atoi
import Derived.Shelf.Strconv.Itoa0
import Derived.Shelf.Strconv.Itoa1
import Derived.Shelf.LaysM
import Derived.Shelf.Strconv.Itoa2
import Derived.Shelf.Strconv.Itoa3
import Derived.Shelf.Strconv.AtoiErrFast
import Derived.Shelf.Strconv.ParseIntEmpty
import Derived.Shelf.Strconv.AtoiFail
import Derived.Shelf.Strconv.Clone
import Derived.Shelf.Strconv.SyntaxError
import Derived.Shelf.Strconv.Lower
import Derived.Shelf.Strconv.ParseUint10
import Derived.Shelf.Strconv.ParseUint10Empty
import Derived.Shelf.Strconv.RangeError
import Derived.Shelf.Strconv.ParseUintEmpty
import Derived.Shelf.Strconv.ParseUint10b64
import Derived.Shelf.Strconv.ParseUint10b32
import Derived.Shelf.Strconv.ParseUint10b16
import Derived.Shelf.Strconv.ParseUint10b8
import Derived.Shelf.Strings.Search1
import Derived.Shelf.Strings.Search2
import Derived.Shelf.Strings.Search3
import Derived.Shelf.Strings.Cut
import Derived.Shelf.Strings.Count
import Derived.Shelf.Strings.Shaped
import Derived.Shelf.Sort.Plain
import Derived.Shelf.Strings.Prefix
import Derived.Shelf.Strings.Split
import Derived.Shelf.Strings.SplitShaped
import Derived.Shelf.Unicode.Decode
import Derived.Shelf.Strings.Runes
import Derived.Shelf.Strings.RuneCount
import Derived.Shelf.Strings.AsciiSet
import Derived.Shelf.Strings.Explode
import Derived.Shelf.Unicode.DecodeSlow
import Derived.Shelf.Unicode.DecodeAny
import Derived.Shelf.Unicode.DecodeLast
import Derived.Shelf.Slices.Turned
import Derived.Shelf.Slices.Equal
import Derived.Ground.Names2Prog
import Derived.Shelf.Slices.Clone
import Derived.Shelf.Slices.CompactI
import Derived.Shelf.Slices.CompactS
import Derived.Shelf.Slices.SearchI
import Derived.Shelf.Slices.Cells
import Derived.Shelf.Slices.In.SortNone
import Derived.Shelf.Slices.Empties
import Derived.Shelf.Slices.Empties2
import Derived.Ground.SlgnProg
import Derived.Shelf.SlicesE.Clone
import Derived.Ground.SlsfProg
import Derived.Shelf.SlSortCmp.Insertion
import Derived.Shelf.SlSortCmp.SiftDown1
import Derived.Shelf.SlSortCmp.HeapSort1
import Derived.Shelf.SlSortCmp.Insertion1
import Derived.Shelf.SlSortCmp.Median1
import Derived.Shelf.SlSortCmp.Pivot1
import Derived.Shelf.SlSortCmp.ReverseRange1
import Derived.Shelf.SlSortCmp.PartialInsertion1
import Derived.Shelf.SlSortCmp.PartitionEqual1
import Derived.Shelf.SlSortCmp.Partition1
import Derived.Shelf.SlSortCmp.Pdq1
import Derived.Shelf.SlSortCmp.Whole1
import Derived.Shelf.SlSortCmp.NoneTotal
import Derived.Test.YtlkaenijicgfcaaGreatDoorProg
import Derived.Orders
import Derived.Tactics
import Derived.Below
import Derived.KernelRfl
import Derived.Laws.Cells
import Derived.Laws.CopyRow
import Derived.Laws.Externs
import Derived.IntWalk
import Derived.Deep.LoopGhost
import Derived.LoopN
import Derived.Laws.StructEq
import Derived.Maps.AppendAt
import Derived.Laws.OwnMore
import Derived.Laws.Slices
import Derived.Laws.Strings3
import Derived.Laws.Concat
namespace Go.Md
def Jq {α β : Type} (m : Option α) (k : α → Option β) : Option β :=
 match m with
 | some a => k a
 | none => none
theorem Je {α β : Type} {m : Option α} {k : α → Option β} {r : β} (h : Jq m k = some r) : ∃ a, m = some a ∧ k a = some r := by
 cases m with
 | none => cases h
 | some a => exact ⟨a, rfl, h⟩
@[simp] theorem Jd {α β : Type} (a : α) (k : α → Option β) : Jq (some a) k = k a := rfl
@[simp] theorem bnd_none {α β : Type} (k : α → Option β) : Jq none k = none := rfl
def val {α : Type} [Inhabited α] (m : Option α) : α := m.getD default
theorem Qh {α β : Type} [Inhabited α] {m : Option α} {k : α → Option β} {r : β} (h : Jq m k = some r) : m = some (val m) := by
 cases m with
 | none => cases h
 | some a => rfl
theorem J3 {α β : Type} [Inhabited α] {m : Option α} {k : α → Option β} {r : β} (h : Jq m k = some r) : k (val m) = some r := by
 cases m with
 | none => cases h
 | some a => exact h
def J6 {α : Type} (b : Bool) (x y : Option α) : Option α := match b with | true => x | false => y
theorem Jen {α : Type} {b : Bool} {x y : Option α} {r : Option α} (hb : b = true) (h : J6 b x y = r) : x = r := by subst hb; exact h
theorem Jei {α : Type} {b : Bool} {x y : Option α} {r : Option α} (hb : b = false) (h : J6 b x y = r) : y = r := by subst hb; exact h
@[simp] theorem Jh {α : Type} (x y : Option α) : J6 true x y = x := rfl
@[simp] theorem Jf {α : Type} (x y : Option α) : J6 false x y = y := rfl
theorem Qr {α : Type} (p : Prop) [Decidable p] (x y : Option α) : J6 (decide p) x y = if p then x else y := by
 by_cases h : p <;> simp [h]
def it {α ρ : Type} (F : (α → Option ρ) → α → Option ρ) : Nat → α → Option ρ
 | 0, _ => none
 | n + 1, a => F (it F n) a
open Classical in
noncomputable def Zp {α ρ : Type} (F : (α → Option ρ) → α → Option ρ) (a : α) : Option ρ :=
 if h : ∃ r k, ∀ n, k ≤ n → it F n a = some r then some (Classical.choose h) else none
theorem fix_it {α ρ : Type} {F : (α → Option ρ) → α → Option ρ} {a : α} {r : ρ} (h : Zp F a = some r) : ∃ n, it F n a = some r := by
 unfold Zp at h
 split at h
 ·rename_i hh
  cases h
  obtain ⟨k, hk⟩ := Classical.choose_spec hh
  exact ⟨k, hk k (Nat.le_refl _)⟩
 ·cases h
theorem fix_ev {α ρ : Type} {F : (α → Option ρ) → α → Option ρ} {a : α} {o : Option ρ} {k : Nat} (h : ∀ n, k ≤ n → it F n a = o) : Zp F a = o := by
 unfold Zp
 cases o with
 | some r =>
  have hh : ∃ r k, ∀ n, k ≤ n → it F n a = some r := ⟨r, k, h⟩
  rw [dif_pos hh]
  obtain ⟨k', hk'⟩ := Classical.choose_spec hh
  have h1 := hk' (max k k') (Nat.le_max_right _ _)
  rw [h _ (Nat.le_max_left _ _)] at h1
  exact h1.symm
 | none =>
  rw [dif_neg]
  rintro ⟨r, k', hk'⟩
  have h1 := hk' (max k k') (Nat.le_max_right _ _)
  rw [h _ (Nat.le_max_left _ _)] at h1
  cases h1
theorem fix_of {α ρ : Type} {F : (α → Option ρ) → α → Option ρ} (spec : α → Option ρ) (I : α → Prop) (μ : α → Nat)
  (step : ∀ (next : α → Option ρ) (a : α), I a → (∀ b, I b → μ b < μ a → next b = spec b) → F next a = spec a) (a : α) (ha : I a) : Zp F a = spec a := by
 have key : ∀ (n : Nat) (a : α), I a → μ a < n → it F n a = spec a := by
  intro n
  induction n with
  | zero => intro a _ h; omega
  | succ n ih => intro a ha h; exact step _ a ha fun b hb hlt => ih b hb (by omega)
 exact fix_ev (k := μ a + 1) fun n hn => key n a ha (by omega)
theorem it_ev {α ρ : Type} {F : (α → Option ρ) → α → Option ρ} {a b : α} (h : ∀ next, F next a = next b) : Zp F a = Zp F b := by
 by_cases hb : ∃ r k, ∀ n, k ≤ n → it F n b = some r
 ·obtain ⟨r, k, hk⟩ := hb
  rw [fix_ev (o := some r) (k := k) hk, fix_ev (o := some r) (k := k + 1)]
  intro n hn
  cases n with
  | zero => omega
  | succ n => show F (it F n) a = some r; rw [h]; exact hk n (by omega)
 ·have ha : ¬ ∃ r k, ∀ n, k ≤ n → it F n a = some r := by
   rintro ⟨r, k, hk⟩
   exact hb ⟨r, k, fun n hn => by have := hk (n + 1) (by omega); rw [show it F (n + 1) a = F (it F n) a from rfl, h] at this; exact this⟩
  unfold Zp
  rw [dif_neg hb, dif_neg ha]
theorem X0 {α ρ : Type} {F : (α → Option ρ) → α → Option ρ} {a : α} (b : α) (h : ∀ next, F next a = next b) : Zp F a = Zp F b := it_ev h
theorem Ql {α ρ : Type} {F : (α → Option ρ) → α → Option ρ} {a : α} {o : Option ρ} (h : ∀ next, F next a = o) : Zp F a = o :=
 fix_ev (k := 1) fun n hn => by
  cases n with
  | zero => omega
  | succ n => exact h _
def gI (x : Int) : Option Int := if -9223372036854775808 ≤ x ∧ x ≤ 9223372036854775807 then some x else none
theorem gI_some {x y : Int} (h : gI x = some y) : y = x ∧ -9223372036854775808 ≤ x ∧ x ≤ 9223372036854775807 := by
 unfold gI at h; split at h
 ·cases h; exact ⟨rfl, ‹_›⟩
 ·cases h
theorem Qf {x : Int} (h : -9223372036854775808 ≤ x ∧ x ≤ 9223372036854775807) : gI x = some x := if_pos h
def gRem (x y : Int) : Option Int := if y = 0 then none else some (x.tmod y)
theorem gRem_some {x y z : Int} (h : gRem x y = some z) : y ≠ 0 ∧ z = x.tmod y := by
 unfold gRem at h; split at h
 ·cases h
 ·cases h; exact ⟨‹_›, rfl⟩
theorem gRem_ok {x y : Int} (hy : y ≠ 0) : gRem x y = some (x.tmod y) := if_neg hy
theorem gRem_nn {x y : Int} (hy : 0 < y) (h : 0 ≤ x) : gRem x y = some (x % y) := by
 rw [gRem_ok (by omega), Int.tmod_eq_emod_of_nonneg h]
def Qk {α : Type} (xs : List α) (i : Int) : Option α := if 0 ≤ i then xs[i.toNat]? else none
theorem Xg {α : Type} {xs : List α} {i : Int} {x : α} (h : Qk xs i = some x) : 0 ≤ i ∧ i.toNat < xs.length ∧ xs[i.toNat]? = some x := by
 unfold Qk at h; split at h
 ·refine ⟨‹_›, ?_, h⟩
  rcases Nat.lt_or_ge i.toNat xs.length with h' | h'
  ·exact h'
  ·rw [List.getElem?_eq_none h'] at h; cases h
 ·cases h
theorem J5 {α : Type} {xs : List α} {k : Nat} (h : k < xs.length) : Qk xs (k : Int) = some xs[k] := by
 unfold Qk; rw [if_pos (by omega), Int.toNat_natCast, List.getElem?_eq_getElem h]
theorem gAt_ok {α : Type} {xs : List α} {i : Int} (h0 : 0 ≤ i) (h : i.toNat < xs.length) : Qk xs i = some xs[i.toNat] := by
 unfold Qk; rw [if_pos h0, List.getElem?_eq_getElem h]
def gSet {α : Type} (xs : List α) (i : Int) (x : α) : Option (List α) := if 0 ≤ i ∧ i.toNat < xs.length then some (xs.set i.toNat x) else none
theorem Jfo {α : Type} {xs ys : List α} {i : Int} {x : α} (h : gSet xs i x = some ys) : 0 ≤ i ∧ i.toNat < xs.length ∧ ys = xs.set i.toNat x := by
 unfold gSet at h; split at h
 ·cases h; exact ⟨‹_ ∧ _›.1, ‹_ ∧ _›.2, rfl⟩
 ·cases h
theorem Jd7 {α : Type} {xs : List α} {i : Int} {x : α} (h0 : 0 ≤ i) (h : i.toNat < xs.length) : gSet xs i x = some (xs.set i.toNat x) := if_pos ⟨h0, h⟩
theorem Jfw {α : Type} {n : Nat} {xs ys : List α} {i : Int} {x : α} (hn : n = xs.length) (h : gSet xs i x = some ys) : n = ys.length := by
 obtain ⟨_, _, rfl⟩ := Jfo h; rw [List.length_set]; exact hn
def Qd {α : Type} (xs : List α) (l h : Int) : Option (List α) := if 0 ≤ l ∧ l ≤ h ∧ h ≤ xs.length then some ((xs.drop l.toNat).take (h.toNat - l.toNat)) else none
theorem Zk {α : Type} {xs ys : List α} {l h : Int} (e : Qd xs l h = some ys) : 0 ≤ l ∧ l ≤ h ∧ h ≤ xs.length ∧ ys = (xs.drop l.toNat).take (h.toNat - l.toNat) := by
 unfold Qd at e; split at e
 ·cases e; rename_i h; exact ⟨h.1, h.2.1, h.2.2, rfl⟩
 ·cases e
theorem Jf8 {α : Type} {xs : List α} {l h : Int} (h0 : 0 ≤ l ∧ l ≤ h ∧ h ≤ xs.length) : Qd xs l h = some ((xs.drop l.toNat).take (h.toNat - l.toNat)) := if_pos h0
theorem Jcz {α : Type} {xs : List α} {h : Int} (h0 : 0 ≤ h ∧ h ≤ xs.length) : Qd xs 0 h = some (xs.take h.toNat) := by rw [Jf8 ⟨by omega, h0⟩]; simp
theorem Uh {α : Type} {xs : List α} {l : Int} (h0 : 0 ≤ l ∧ l ≤ xs.length) : Qd xs l xs.length = some (xs.drop l.toNat) := by
 rw [Jf8 ⟨h0.1, h0.2, by omega⟩, List.take_of_length_le (by simp)]
def Uw (s : List UInt8) (i : Int) : Option Int := if 0 ≤ i then (s[i.toNat]?).map fun c => (c.toNat : Int) else none
theorem gOct_some {s : List UInt8} {i c : Int} (h : Uw s i = some c) : 0 ≤ i ∧ i < s.length ∧ c = ((s.getD i.toNat 0).toNat : Nat) := by
 unfold Uw at h; split at h
 ·rename_i h0
  rcases Nat.lt_or_ge i.toNat s.length with h' | h'
  ·rw [List.getElem?_eq_getElem h'] at h
   simp only [Option.map_some, Option.some.injEq] at h
   refine ⟨h0, by omega, ?_⟩
   rw [← h, List.getD_eq_getElem?_getD, List.getElem?_eq_getElem h']; rfl
  ·rw [List.getElem?_eq_none h'] at h; cases h
 ·cases h
theorem Jha {s : List UInt8} {k : Nat} (h : k < s.length) : Uw s (k : Int) = some (s[k].toNat : Int) := by
 unfold Uw; rw [if_pos (by omega), Int.toNat_natCast, List.getElem?_eq_getElem h]; rfl
theorem gOct_ok {s : List UInt8} {i : Int} (h0 : 0 ≤ i) (h : i.toNat < s.length) : Uw s i = some (s[i.toNat].toNat : Int) := by
 unfold Uw; rw [if_pos h0, List.getElem?_eq_getElem h]; rfl
def Vi (a b : List UInt8) : Option (List UInt8) := if a.length + b.length ≤ 9223372036854775807 then some (a ++ b) else none
theorem gCat_some {a b c : List UInt8} (h : Vi a b = some c) : c = a ++ b ∧ a.length + b.length ≤ 9223372036854775807 := by
 unfold Vi at h; split at h
 ·cases h; exact ⟨rfl, ‹_›⟩
 ·cases h
theorem Wd {a b : List UInt8} (h : a.length + b.length ≤ 9223372036854775807) : Vi a b = some (a ++ b) := if_pos h
def Ja4 {α : Type} (by_ : Nat) (xs ys : List α) : Option (List α) := if xs.length + ys.length ≤ 140737488355328 ∧ (xs.length + ys.length) * by_ ≤ 140737488355328 then some (xs ++ ys) else none
theorem Jeb {α : Type} {by_ : Nat} {xs ys zs : List α} (h : Ja4 by_ xs ys = some zs) : zs = xs ++ ys ∧ xs.length + ys.length ≤ 140737488355328 ∧ (xs.length + ys.length) * by_ ≤ 140737488355328 := by
 unfold Ja4 at h; split at h
 ·cases h; exact ⟨rfl, ‹_›⟩
 ·cases h
theorem Jb7 {α : Type} {by_ : Nat} {xs ys : List α} (h : xs.length + ys.length ≤ 140737488355328 ∧ (xs.length + ys.length) * by_ ≤ 140737488355328) : Ja4 by_ xs ys = some (xs ++ ys) := if_pos h
def gApL {α : Type} (by_ : Nat) (xs ys : List α) : Option (List α) := if xs.length + ys.length ≤ 140739635838976 ∧ (xs.length + ys.length) * by_ ≤ 140739635838976 then some (xs ++ ys) else none
theorem gApL_some {α : Type} {by_ : Nat} {xs ys zs : List α} (h : gApL by_ xs ys = some zs) : zs = xs ++ ys ∧ xs.length + ys.length ≤ 140739635838976 ∧ (xs.length + ys.length) * by_ ≤ 140739635838976 := by
 unfold gApL at h; split at h
 ·cases h; exact ⟨rfl, ‹_›⟩
 ·cases h
theorem gApL_ok {α : Type} {by_ : Nat} {xs ys : List α} (h : xs.length + ys.length ≤ 140739635838976 ∧ (xs.length + ys.length) * by_ ≤ 140739635838976) : gApL by_ xs ys = some (xs ++ ys) := if_pos h
def Qq (s : List UInt8) : List Int := s.map fun c => (c.toNat : Int)
def gMake {α : Type} (by_ : Nat) (n : Int) (z : α) : Option (List α) := if 0 ≤ n ∧ n ≤ 140737488355328 ∧ by_ * n.toNat ≤ 140737488355328 then some (List.replicate n.toNat z) else none
theorem gMake_some {α : Type} {by_ : Nat} {n : Int} {z : α} {zs : List α} (h : gMake by_ n z = some zs) : 0 ≤ n ∧ n ≤ 140737488355328 ∧ by_ * n.toNat ≤ 140737488355328 ∧ zs = List.replicate n.toNat z := by
 unfold gMake at h; split at h
 ·cases h; rename_i h; exact ⟨h.1, h.2.1, h.2.2, rfl⟩
 ·cases h
theorem gMake_ok {α : Type} {by_ : Nat} {n : Int} {z : α} (h : 0 ≤ n ∧ n ≤ 140737488355328 ∧ by_ * n.toNat ≤ 140737488355328) : gMake by_ n z = some (List.replicate n.toNat z) := if_pos h
def gIf (p : Prop) [Decidable p] : Option Unit := if p then some () else none
theorem gIf_some {p : Prop} [Decidable p] {u : Unit} (h : gIf p = some u) : p := by
 unfold gIf at h; split at h
 ·assumption
 ·cases h
theorem gIf_ok {p : Prop} [Decidable p] (h : p) : gIf p = some () := if_pos h
def wU8 (x : Int) : Int := x % 256
def wU64 (x : Int) : Int := x % 18446744073709551616
def wI32 (x : Int) : Int := if 2147483648 ≤ x % 4294967296 then x % 4294967296 - 4294967296 else x % 4294967296
def Jbx (x : Int) : Int := if 9223372036854775808 ≤ x % 18446744073709551616 then x % 18446744073709551616 - 18446744073709551616 else x % 18446744073709551616
theorem wI64_in {x : Int} (h : -9223372036854775808 ≤ x ∧ x ≤ 9223372036854775807) : Jbx x = x := by unfold Jbx; split <;> omega
theorem wU64_in {x : Int} (h : 0 ≤ x ∧ x ≤ 18446744073709551615) : wU64 x = x := by unfold wU64; omega
def gK (lo hi x : Int) : Option Int := if lo ≤ x ∧ x ≤ hi then some x else none
theorem gK_some {lo hi x y : Int} (h : gK lo hi x = some y) : y = x ∧ lo ≤ x ∧ x ≤ hi := by
 unfold gK at h; split at h
 ·cases h; exact ⟨rfl, ‹_›⟩
 ·cases h
def gShr (bits : Nat) (x y : Int) : Option Int := if 0 ≤ y then some (x / 2 ^ min y.toNat bits) else none
def bAnd (bits : Nat) (x y : Int) : Int := ((BitVec.ofInt bits x &&& BitVec.ofInt bits y).toNat : Int)
def gIx (n : Nat) (i : Int) : Option Nat := if 0 ≤ i ∧ i < n then some i.toNat else none
theorem Jgo {n k : Nat} {i : Int} (h : gIx n i = some k) : 0 ≤ i ∧ i < n ∧ k = i.toNat := by
 unfold gIx at h; split at h
 ·cases h; rename_i h; exact ⟨h.1, h.2, rfl⟩
 ·cases h
theorem gIx_lt {n k : Nat} {i : Int} (h : gIx n i = some k) : k < n := by
 obtain ⟨h0, h1, rfl⟩ := Jgo h; omega
theorem Jd2 {n k : Nat} (h : k < n) : gIx n (k : Int) = some k := by unfold gIx; rw [if_pos (by omega)]; rfl
theorem gIx_ok {n : Nat} {i : Int} (h : 0 ≤ i ∧ i < n) : gIx n i = some i.toNat := if_pos h
def W0 {α : Type} [Inhabited α] (l : List α) (j : Nat) : α := l.getD j default
def Jae {α : Type} (v : Nat → α) (i : Nat) (x : α) (j : Nat) : α := if j = i then x else v j
end Go.Md

/- Models of floating-point numbers: bits, read and written as the machine does. Conditions: none. -/
namespace Go.Md
open Go
end Go.Md

/- Guards: the beginning of an array, the next character of a string. Conditions: none. -/
namespace Go.Md
def gNx (s : List UInt8) (k : Nat) : Option Int := match s[k]? with | some c => if c.toNat < 128 then some (c.toNat : Int) else none | none => none
theorem gNx_some {s : List UInt8} {k : Nat} {c : Int} (h : gNx s k = some c) : ∃ hk : k < s.length, (s[k]).toNat < 128 ∧ c = ((s[k]).toNat : Nat) := by
 unfold gNx at h; split at h
 ·rename_i u hu
  obtain ⟨hk, rfl⟩ := List.getElem?_eq_some_iff.1 hu
  split at h
  ·rename_i h2; cases h; exact ⟨hk, h2, rfl⟩
  ·cases h
 ·cases h
end Go.Md

/- Guards: a part of a row that is copied over; arrays out of slices; functions that may be nil. Conditions: none. -/
namespace Go.Md
end Go.Md

/- Models: what a strings.Builder holds. Conditions: none. -/
namespace Go.Md
def gBld (a s : List UInt8) : Option (List UInt8) := if s ≠ [] ∧ a.length + s.length ≤ 140737488355328 then some (a ++ s) else none
theorem gBld_some {a s r : List UInt8} (h : gBld a s = some r) : r = a ++ s ∧ s ≠ [] ∧ a.length + s.length ≤ 140737488355328 := by
 unfold gBld at h; split at h
 ·cases h; rename_i h; exact ⟨rfl, h⟩
 ·cases h
theorem Jdf {a s : List UInt8} (h : s ≠ [] ∧ a.length + s.length ≤ 140737488355328) : gBld a s = some (a ++ s) := if_pos h
end Go.Md

/- Models: bytes in strings, decimal numerals. Conditions: none. -/
namespace Go.Md
def ixB : List UInt8 → UInt8 → Int
 | [], _ => -1
 | b :: l, c => if b = c then 0 else if ixB l c = -1 then -1 else ixB l c + 1
def gIxB (s : List UInt8) (c : Int) : Option Int := some (ixB s c.toNat.toUInt8)
def gCnB (s : List UInt8) (c : Int) : Option Int := some (s.count c.toNat.toUInt8 : Nat)
def Jcs (u : Nat) : List UInt8 :=
 if u < 10 then [UInt8.ofNat (48 + u)] else Jcs (u / 10) ++ [UInt8.ofNat (48 + u % 10)]
termination_by u
decreasing_by omega
def Jbr (n : Int) : List UInt8 := if n < 0 then 45 :: Jcs n.natAbs else Jcs n.toNat
def gItoa (n : Int) : Option (List UInt8) := if -9223372036854775808 ≤ n ∧ n ≤ 9223372036854775807 then some (Jbr n) else none
def digV (b : UInt8) : Option Nat := if 48 ≤ b.toNat ∧ b.toNat ≤ 57 then some (b.toNat - 48) else none
def Jz (acc : Nat) : List UInt8 → Option Nat
 | [] => some acc
 | b :: r => match digV b with
  | some d => Jz (acc * 10 + d) r
  | none => none
def decN (l : List UInt8) : Option Nat := if l.isEmpty then none else Jz 0 l
def atoiL : List UInt8 → Option Int
 | [] => none
 | b :: r =>
  if b == 45 then (decN r).map fun (m : Nat) => -(m : Int)
  else if b == 43 then (decN r).map fun (m : Nat) => (m : Int)
  else (decN (b :: r)).map fun (m : Nat) => (m : Int)
def Je5 (s : List UInt8) : Option Int := if s.length ≤ 18 then atoiL s else none
def gJoin (l : List (List UInt8)) (sep : List UInt8) : Option (List UInt8) := if l.length ≤ 140737488355328 ∧ (sep.intercalate l).length ≤ 140737488355328 then some (sep.intercalate l) else none
def Zc {α : Type} [DecidableEq α] (p : α) : List α → List α
 | [] => []
 | y :: l => if y = p then Zc p l else y :: Zc y l
def cmpL {α : Type} [DecidableEq α] : List α → List α
 | [] => []
 | y :: l => y :: Zc y l
def gSortI (l : List Int) : Option (List Int) := if l.length < 4611686018427387904 then some (l.mergeSort fun x y => decide (x ≤ y)) else none
def gCmpI (l : List Int) : Option (List Int) := if l.length < 4611686018427387904 then some (cmpL l) else none
def gGroC (by_ : Nat) (n : Int) : Option Nat := if 0 ≤ n ∧ n ≤ 281474976710656 ∧ by_ * n.toNat ≤ 281474976710656 then some n.toNat else none
theorem gGroC_some {by_ : Nat} {n : Int} {u : Nat} (h : gGroC by_ n = some u) : u = n.toNat ∧ 0 ≤ n ∧ n ≤ 281474976710656 ∧ by_ * n.toNat ≤ 281474976710656 := by
 unfold gGroC at h; split at h
 ·cases h; exact ⟨rfl, by assumption⟩
 ·cases h
theorem gGroC_ok {by_ : Nat} {n : Int} (h : 0 ≤ n ∧ n ≤ 281474976710656 ∧ by_ * n.toNat ≤ 281474976710656) : gGroC by_ n = some n.toNat := if_pos h
def gApC {α : Type} (c : Nat) (xs ys : List α) : Option (List α) := if xs.length + ys.length ≤ c ∧ c ≤ 9223372036854775807 then some (xs ++ ys) else none
theorem gApC_some {α : Type} {c : Nat} {xs ys zs : List α} (h : gApC c xs ys = some zs) : zs = xs ++ ys ∧ xs.length + ys.length ≤ c ∧ c ≤ 9223372036854775807 := by
 unfold gApC at h; split at h
 ·cases h; exact ⟨rfl, by assumption⟩
 ·cases h
theorem gApC_ok {α : Type} {c : Nat} {xs ys : List α} (h : xs.length + ys.length ≤ c ∧ c ≤ 9223372036854775807) : gApC c xs ys = some (xs ++ ys) := if_pos h
end Go.Md

/- Models: elements that are struck out, or move within their row. Conditions: none. -/
namespace Go.Md
def gByt (s : List UInt8) : Option (List Int) := if s.length ≤ 9223372036854775807 then some (Qq s) else none
theorem gByt_some {s : List UInt8} {r : List Int} (h : gByt s = some r) : r = Qq s ∧ s.length ≤ 9223372036854775807 := by
 unfold gByt at h; split at h
 ·cases h; exact ⟨rfl, by assumption⟩
 ·cases h
theorem gByt_ok {s : List UInt8} (h : s.length ≤ 9223372036854775807) : gByt s = some (Qq s) := if_pos h
end Go.Md

/- Models: maps as lists of what was put in, and choices that nobody knows. Conditions: none. -/
namespace Go.Md
section
variable {κ ν : Type} [DecidableEq κ]
def Jcp (xs : List (κ × ν)) (k : κ) : Option ν := (xs.find? fun p => decide (p.1 = k)).map (·.2)
def mHas (xs : List (κ × ν)) (k : κ) : Bool := xs.any fun p => decide (p.1 = k)
def Ja3 (xs : List (κ × ν)) (k : κ) (v : ν) : List (κ × ν) := if mHas xs k then xs.map (fun p => if p.1 = k then (k, v) else p) else xs ++ [(k, v)]
end
structure Pick {α : Type} (l : List α) (p : α) (l' : List α) : Prop where
 out : ∃ i, l[i]? = some p ∧ l' = l.eraseIdx i
theorem Pick.len {α : Type} {l l' : List α} {p : α} (h : Pick l p l') : l'.length + 1 = l.length := by
 obtain ⟨i, h1, rfl⟩ := h.out
 have hi : i < l.length := by
  rcases Nat.lt_or_ge i l.length with h | h
  ·exact h
  ·rw [List.getElem?_eq_none h] at h1; cases h1
 rw [List.length_eraseIdx_of_lt hi]; omega
end Go.Md

/- Operations of models: a sort by a comparing function. Conditions: none. -/
namespace Go.Md
structure CmpOk {α : Type} (cmp : α → α → Option Int) : Prop where
 tot : ∀ x y, ∃ v, cmp x y = some v
 flip : ∀ x y, (cmp x y).getD 0 < 0 ↔ 0 < (cmp y x).getD 0
 trans : ∀ x y z, (cmp x y).getD 0 ≤ 0 → (cmp y z).getD 0 ≤ 0 → (cmp x z).getD 0 ≤ 0
 anti : ∀ x y, (cmp x y).getD 0 = 0 → x = y
def leC {α : Type} (cmp : α → α → Option Int) (x y : α) : Bool := decide ((cmp x y).getD 0 ≤ 0)
section
variable {α : Type} {cmp : α → α → Option Int}
theorem CmpOk.refl (c : CmpOk cmp) (x : α) : leC cmp x x = true := by
 have := c.flip x x
 unfold leC; simp; omega
end
end Go.Md

/- Operations of models: a sort by a number that each element has for itself. Conditions: none. -/
namespace Go.Md
end Go.Md

/- Operations of models: a sort whose order tells all elements of the list apart. Conditions: none. -/
namespace Go.Md
structure CmpPre {α : Type} (cmp : α → α → Option Int) : Prop where
 tot : ∀ x y, ∃ v, cmp x y = some v
 flip : ∀ x y, (cmp x y).getD 0 < 0 ↔ 0 < (cmp y x).getD 0
 trans : ∀ x y z, (cmp x y).getD 0 ≤ 0 → (cmp y z).getD 0 ≤ 0 → (cmp x z).getD 0 ≤ 0
section
variable {α : Type} {cmp : α → α → Option Int}
end
end Go.Md

/- Operations of models: a sort whose order leaves the result open; what follows must not depend on it. Conditions: none. -/
namespace Go.Md
structure SortOf {α : Type} (cmp : α → α → Option Int) (l d : List α) : Prop where
 perm : d.Perm l
 Jeq : d.Pairwise fun x y => leC cmp x y = true
section
variable {α ρ : Type} {cmp : α → α → Option Int} {l : List α} {k : List α → Option ρ} {r : ρ}
end
end Go.Md

/- FaceTexts: the models, printed by our generator from the compiled program. Conditions: none. -/
namespace Go.M
open Go.Md
set_option maxRecDepth 100000
set_option linter.unusedVariables false
structure Ta where
 Id : Int
 Photo : Int
 Vec : (Nat → Int)
instance : Inhabited Ta := ⟨⟨0, 0, fun _ => 0⟩⟩
structure Tb where
 Id : Int
 Name : (List UInt8)
 Likes : (List Int)
 Nots : (List Int)
instance : Inhabited Tb := ⟨⟨0, [], [], []⟩⟩
structure Tc where
 l_ : (List Ta)
 people_ : (List Tb)
 want_ : Int
instance : Inhabited Tc := ⟨⟨[], [], 0⟩⟩
def Vx (x y : Ta) : Bool := decide (x.Id = y.Id ∧ x.Photo = y.Photo ∧ ((x.Vec 0) = (y.Vec 0) ∧ (x.Vec 1) = (y.Vec 1) ∧ (x.Vec 2) = (y.Vec 2) ∧ (x.Vec 3) = (y.Vec 3) ∧ (x.Vec 4) = (y.Vec 4) ∧ (x.Vec 5) = (y.Vec 5) ∧ (x.Vec 6) = (y.Vec 6) ∧ (x.Vec 7) = (y.Vec 7) ∧ (x.Vec 8) = (y.Vec 8) ∧ (x.Vec 9) = (y.Vec 9) ∧ (x.Vec 10) = (y.Vec 10) ∧ (x.Vec 11) = (y.Vec 11)))
noncomputable def Jfr (a0 : Int) : Option (Bool) :=
 J6 (decide (1 ≤ a0)) (some (decide (a0 ≤ 1000000))) (some false)
noncomputable def Ut (a0 : (Nat → Int)) (next1 : ((Int) → Option (Int))) (x6_2 : Int) : Option (Int) :=
 J6 (decide (x6_2 < 12)) (Jq (gIx 12 x6_2) fun k8 =>
 J6 (decide ((a0 k8) < (-127))) (some 2) (J6 (decide (127 < (a0 k8))) (some 2) (Jq (gI (x6_2 + 1)) fun t15 =>
 next1 t15))) (some 0)
noncomputable def Jdi (a0 : (Nat → Int)) : Option (Int) :=
 Zp (fun next1 s => Ut a0 next1 s) 0
noncomputable def Wl (x11_2 : Int) (next1 : ((Int) → Option (Int))) (t14 : Ta) (x24 : Bool) (x25 : Bool) : Option (Int) :=
 Jq (Jdi t14.Vec) fun t43 =>
 J6 (decide (t43 ≠ 0)) (some t43) (Jq (gI (x11_2 + 1)) fun t47 =>
 next1 t47)
noncomputable def U8 (a0 : (List Ta)) (next1 : ((Int) → Option (Int))) (x11_2 : Int) : Option (Int) :=
 J6 (decide (x11_2 < (a0.length : Int))) (Jq (Qk a0 x11_2) fun t14 =>
 Jq (Jfr t14.Id) fun t19 =>
 J6 (!t19) (some 2) (Jq (Jfr t14.Photo) fun t24 =>
 J6 (!t24) (some 2) (J6 (decide (0 < x11_2)) (Jq (gI (x11_2 - 1)) fun t35 =>
 Jq (Qk a0 t35) fun t36 =>
 J6 (decide (t14.Id ≤ t36.Id)) (some 5) (Wl x11_2 next1 t14 t24 (!t24))) (Wl x11_2 next1 t14 t24 (!t24))))) (some 0)
noncomputable def Ud (a0 : (List Ta)) : Option (Int) :=
 J6 (decide (300 < (a0.length : Int))) (some 4) (Zp (fun next1 s => U8 a0 next1 s) 0)
noncomputable def Ja1 (a0 : (List UInt8)) (next1 : ((Int) → Option (Bool))) (x14_2 : Int) : Option (Bool) :=
 J6 (decide (x14_2 < (a0.length : Int))) (Jq (Uw a0 x14_2) fun t19 =>
 J6 (decide (t19 < 32)) (some false) (Jq (gI (x14_2 + 1)) fun t21 =>
 next1 t21)) (some true)
noncomputable def Jcd (a0 : (List UInt8)) : Option (Bool) :=
 J6 (decide ((a0.length : Int) < 1)) (some false) (J6 (decide (60 < (a0.length : Int))) (some false) (Zp (fun next1 s => Ja1 a0 next1 s) 0))
noncomputable def Yb (a0 : (List Ta)) (a1 : (Ta → Option (Bool))) (next1 : ((Int) → Option (Int))) (x8_2 : Int) : Option (Int) :=
 J6 (decide (x8_2 < (a0.length : Int))) (Jq (Qk a0 x8_2) fun t14 =>
 Jq (a1 t14) fun t16 =>
 J6 t16 (some x8_2) (Jq (gI (x8_2 + 1)) fun t18 =>
 next1 t18)) (some (-1))
noncomputable def Yp (a0 : (List Ta)) (a1 : (Ta → Option (Bool))) : Option (Int) :=
 Zp (fun next1 s => Yb a0 a1 next1 s) 0
noncomputable def Jeu (q0 : Int) (a0 : Ta) : Option (Bool) :=
 some (decide (a0.Id = q0))
noncomputable def Jc7 (a0 : (List Ta)) (a1 : Int) : Option (Int) :=
 Jq (Yp a0 (Jeu a1)) fun t7 =>
 some t7
noncomputable def Uq (a0 : (List Int)) (a1 : Int) (next1 : ((Int) → Option (Int))) (x8_2 : Int) : Option (Int) :=
 J6 (decide (x8_2 < (a0.length : Int))) (Jq (Qk a0 x8_2) fun t14 =>
 J6 (decide (a1 = t14)) (some x8_2) (Jq (gI (x8_2 + 1)) fun t18 =>
 next1 t18)) (some (-1))
noncomputable def Jbg (a0 : (List Int)) (a1 : Int) : Option (Int) :=
 Zp (fun next1 s => Uq a0 a1 next1 s) 0
noncomputable def Vm (a0 : (List Int)) (a1 : Int) : Option (Bool) :=
 Jq (Jbg a0 a1) fun t7 =>
 some (decide (0 ≤ t7))
noncomputable def V5 (x24_2 : Int) (next1 : ((Int × (List (Int × Bool))) → Option (Int))) (mp_3 : (List (Int × Bool))) : Option (Int) :=
 Jq (gI (x24_2 + 1)) fun t127 =>
 next1 (t127, mp_3)
noncomputable def X9 (a0 : (List Ta)) (x24_2 : Int) (next1 : ((Int × (List (Int × Bool))) → Option (Int))) (t27 : Tb) (next6 : ((Int × (List (Int × Bool)) × (List (Int × Bool))) → Option (Int))) (x103_2 : Int) (mp_6 : (List (Int × Bool))) (mp_7 : (List (Int × Bool))) : Option (Int) :=
 J6 (decide (x103_2 < (t27.Likes.length : Int))) (Jq (Qk t27.Likes x103_2) fun t105 =>
 Jq (Jc7 a0 t105) fun t110 =>
 Jq (Qk a0 t110) fun t111 =>
 J6 ((Jcp mp_6 t105).getD false) (some 6) (J6 ((Jcp mp_7 t111.Photo).getD false) (some 6) (Jq (gI (x103_2 + 1)) fun t126 =>
 next6 (t126, (Ja3 mp_6 t105 true), (Ja3 mp_7 t111.Photo true))))) (V5 x24_2 next1 mp_6)
noncomputable def X7 (a0 : (List Ta)) (x24_2 : Int) (mp_2 : (List (Int × Bool))) (next1 : ((Int × (List (Int × Bool))) → Option (Int))) (t27 : Tb) : Option (Int) :=
 Zp (fun next6 s => X9 a0 x24_2 next1 t27 next6 s.1 s.2.1 s.2.2) (0, mp_2, ([] : (List (Int × Bool))))
noncomputable def V6 (a0 : (List Ta)) (x24_2 : Int) (mp_2 : (List (Int × Bool))) (next1 : ((Int × (List (Int × Bool))) → Option (Int))) (t27 : Tb) (next7 : ((Int) → Option (Int))) (x91_2 : Int) : Option (Int) :=
 J6 (decide (x91_2 < (t27.Likes.length : Int))) (Jq (Qk t27.Likes x91_2) fun t93 =>
 Jq (Vm t27.Nots t93) fun t98 =>
 J6 t98 (some 11) (Jq (gI (x91_2 + 1)) fun t99 =>
 next7 t99)) (X7 a0 x24_2 mp_2 next1 t27)
noncomputable def Ja5 (a0 : (List Ta)) (x24_2 : Int) (mp_2 : (List (Int × Bool))) (next1 : ((Int × (List (Int × Bool))) → Option (Int))) (t27 : Tb) : Option (Int) :=
 Zp (fun next7 s => V6 a0 x24_2 mp_2 next1 t27 next7 s) 0
noncomputable def Vw (x59_2 : Int) (next8 : ((Int) → Option (Int))) : Option (Int) :=
 Jq (gI (x59_2 + 1)) fun t86 =>
 next8 t86
noncomputable def Wv (x65_2 : Int) (next10 : ((Int) → Option (Int))) : Option (Int) :=
 Jq (gI (x65_2 + 1)) fun t85 =>
 next10 t85
noncomputable def Yz (a0 : (List Ta)) (x59_2 : Int) (next8 : ((Int) → Option (Int))) (t61 : (List Int)) (next10 : ((Int) → Option (Int))) (x65_2 : Int) : Option (Int) :=
 J6 (decide (x65_2 < (t61.length : Int))) (Jq (Qk t61 x65_2) fun t68 =>
 Jq (Jc7 a0 t68) fun t72 =>
 J6 (decide (t72 < 0)) (some 7) (J6 (decide (0 < x65_2)) (Jq (gI (x65_2 - 1)) fun t80 =>
 Jq (Qk t61 t80) fun t81 =>
 J6 (decide (t68 ≤ t81)) (some 5) (Wv x65_2 next10)) (Wv x65_2 next10))) (Vw x59_2 next8)
noncomputable def X6 (a0 : (List Ta)) (x24_2 : Int) (mp_2 : (List (Int × Bool))) (next1 : ((Int × (List (Int × Bool))) → Option (Int))) (t27 : Tb) (next8 : ((Int) → Option (Int))) (x59_2 : Int) : Option (Int) :=
 J6 (decide (x59_2 < 2)) (Jq (Qk ([t27.Likes, t27.Nots] : List (List Int)) x59_2) fun t61 =>
 Zp (fun next10 s => Yz a0 x59_2 next8 t61 next10 s) 0) (Ja5 a0 x24_2 mp_2 next1 t27)
noncomputable def Zl (a0 : (List Ta)) (x24_2 : Int) (mp_2 : (List (Int × Bool))) (next1 : ((Int × (List (Int × Bool))) → Option (Int))) (t27 : Tb) : Option (Int) :=
 Zp (fun next8 s => X6 a0 x24_2 mp_2 next1 t27 next8 s) 0
noncomputable def Qy (a0 : (List Ta)) (a1 : (List Tb)) (next1 : ((Int × (List (Int × Bool))) → Option (Int))) (x24_2 : Int) (mp_2 : (List (Int × Bool))) : Option (Int) :=
 J6 (decide (x24_2 < (a1.length : Int))) (Jq (Qk a1 x24_2) fun t27 =>
 Jq (Jfr t27.Id) fun t32 =>
 J6 (!t32) (some 2) (J6 (decide (0 < x24_2)) (Jq (gI (x24_2 - 1)) fun t42 =>
 Jq (Qk a1 t42) fun t43 =>
 J6 (decide (t27.Id ≤ t43.Id)) (some 5) (Jq (Jcd t27.Name) fun t51 =>
 J6 (!t51) (some 3) (Zl a0 x24_2 mp_2 next1 t27))) (Jq (Jcd t27.Name) fun t51_2 =>
 J6 (!t51_2) (some 3) (Zl a0 x24_2 mp_2 next1 t27)))) (some 0)
noncomputable def Wo (a0 : (List Ta)) (a1 : (List Tb)) : Option (Int) :=
 J6 (decide (100 < (a1.length : Int))) (some 4) (Zp (fun next1 s => Qy a0 a1 next1 s.1 s.2) (0, ([] : (List (Int × Bool)))))
noncomputable def Z5 (a1 : (List Int)) (next1 : ((Int × (List UInt8)) → Option ((List UInt8)))) (x11_2 : Int) (m_2 : (List UInt8)) : Option ((List UInt8)) :=
 J6 (decide (x11_2 < (a1.length : Int))) (Jq (Qk a1 x11_2) fun t13 =>
 Jq (gItoa t13) fun t16 =>
 Jq (Vi [32] t16) fun t17 =>
 Jq (gBld m_2 t17) fun t18 =>
 Jq (gI (x11_2 + 1)) fun t19 =>
 next1 (t19, t18)) (some m_2)
noncomputable def Yg (q0 : (List UInt8)) (a0 : (List UInt8)) (a1 : (List Int)) : Option ((List UInt8)) :=
 Jq (gBld q0 a0) fun t8 =>
 Zp (fun next1 s => Z5 a1 next1 s.1 s.2) (0, t8)
noncomputable def Jep (m_2 : (List UInt8)) : Option ((List UInt8)) :=
 some m_2
noncomputable def Wq (a1 : (List Tb)) (next3 : ((Int × (List UInt8)) → Option ((List UInt8)))) (x33_2 : Int) (m_4 : (List UInt8)) : Option ((List UInt8)) :=
 J6 (decide (x33_2 < (a1.length : Int))) (Jq (Qk a1 x33_2) fun t35 =>
 Jq (Yg m_4 [112, 101, 114, 115, 111, 110] ([t35.Id] : List Int)) fun t41 =>
 Jq (Vi [32] t35.Name) fun t45 =>
 Jq (Vi t45 [10, 108, 105, 107, 101, 115]) fun t46 =>
 Jq (Yg t41 t46 t35.Likes) fun t49 =>
 Jq (Yg t49 [10, 110, 111, 116, 115] t35.Nots) fun t53 =>
 Jq (Yg t53 [10] ([] : (List Int))) fun t55 =>
 Jq (gI (x33_2 + 1)) fun t56 =>
 next3 (t56, t55)) (Jep m_4)
noncomputable def Uv (a1 : (List Tb)) (m : (List UInt8)) : Option ((List UInt8)) :=
 Zp (fun next3 s => Wq a1 next3 s.1 s.2) (0, m)
noncomputable def Wr (a0 : (List Ta)) (a1 : (List Tb)) (next4 : ((Int × (List UInt8)) → Option ((List UInt8)))) (x14_2 : Int) (m_6 : (List UInt8)) : Option ((List UInt8)) :=
 J6 (decide (x14_2 < (a0.length : Int))) (Jq (Qk a0 x14_2) fun t16 =>
 Jq (Ja4 8 ([t16.Id, t16.Photo] : List Int) ((List.range 12).map t16.Vec)) fun l26 =>
 Jq (Yg m_6 [102, 97, 99, 101] l26) fun t27 =>
 Jq (Yg t27 [10] ([] : (List Int))) fun t29 =>
 Jq (gI (x14_2 + 1)) fun t30 =>
 next4 (t30, t29)) (Uv a1 m_6)
noncomputable def Jde (a0 : (List Ta)) (a1 : (List Tb)) : Option ((List UInt8)) :=
 Zp (fun next4 s => Wr a0 a1 next4 s.1 s.2) (0, [])
noncomputable def Ze (a0 : Int) (a1 : Int) (a2 : Int) : Option (Bool) :=
 J6 (decide (a0 < a1)) (some true) (some (decide (a2 < a0)))
noncomputable def V1 (a0 : (Nat → Int)) (next1 : ((Int) → Option (Int))) (x6_2 : Int) : Option (Int) :=
 J6 (decide (x6_2 < 12)) (Jq (gIx 12 x6_2) fun k8 =>
 Jq (Ze (a0 k8) (-127) 127) fun t10 =>
 J6 t10 (some 2) (Jq (gI (x6_2 + 1)) fun t11 =>
 next1 t11)) (some 0)
noncomputable def Jbo (a0 : (Nat → Int)) : Option (Int) :=
 Zp (fun next1 s => V1 a0 next1 s) 0
noncomputable def Vf (x11_2 : Int) (next1 : ((Int) → Option (Int))) (t14 : Ta) : Option (Int) :=
 Jq (Jbo t14.Vec) fun t39 =>
 J6 (decide (t39 ≠ 0)) (some t39) (Jq (gI (x11_2 + 1)) fun t43 =>
 next1 t43)
noncomputable def Ws (a0 : (List Ta)) (next1 : ((Int) → Option (Int))) (x11_2 : Int) : Option (Int) :=
 J6 (decide (x11_2 < (a0.length : Int))) (Jq (Qk a0 x11_2) fun t14 =>
 Jq (Ze t14.Id 1 1000000) fun t18 =>
 J6 t18 (some 2) (Jq (Ze t14.Photo 1 1000000) fun t22 =>
 J6 t22 (some 2) (J6 (decide (0 < x11_2)) (Jq (gI (x11_2 - 1)) fun t31 =>
 Jq (Qk a0 t31) fun t32 =>
 J6 (decide (t14.Id ≤ t32.Id)) (some 5) (Vf x11_2 next1 t14)) (Vf x11_2 next1 t14)))) (some 0)
noncomputable def Ja8 (a0 : (List Ta)) : Option (Int) :=
 J6 (decide (300 < (a0.length : Int))) (some 4) (Zp (fun next1 s => Ws a0 next1 s) 0)
noncomputable def V2 (a0 : (List Int)) (a1 : (Int → Option (Bool))) (next1 : ((Int) → Option (Int))) (x8_2 : Int) : Option (Int) :=
 J6 (decide (x8_2 < (a0.length : Int))) (Jq (Qk a0 x8_2) fun t14 =>
 Jq (a1 t14) fun t16 =>
 J6 t16 (some x8_2) (Jq (gI (x8_2 + 1)) fun t18 =>
 next1 t18)) (some (-1))
noncomputable def Ua (a0 : (List Int)) (a1 : (Int → Option (Bool))) : Option (Int) :=
 Zp (fun next1 s => V2 a0 a1 next1 s) 0
noncomputable def X8 (a0 : (List Int)) (a1 : (Int → Option (Bool))) : Option (Bool) :=
 Jq (Ua a0 a1) fun t7 =>
 some (decide (0 ≤ t7))
noncomputable def Vb (a0 : (List Int)) (a1 : (Int → Option (Bool))) (next1 : ((Int) → Option (Int))) (x8_2 : Int) : Option (Int) :=
 J6 (decide (x8_2 < (a0.length : Int))) (Jq (Qk a0 x8_2) fun t14 =>
 Jq (a1 t14) fun t16 =>
 J6 t16 (some x8_2) (Jq (gI (x8_2 + 1)) fun t18 =>
 next1 t18)) (some (-1))
noncomputable def Wu (a0 : (List Int)) (a1 : (Int → Option (Bool))) : Option (Int) :=
 Zp (fun next1 s => Vb a0 a1 next1 s) 0
noncomputable def Yv (a0 : (List Int)) (a1 : (Int → Option (Bool))) : Option (Bool) :=
 Jq (Wu a0 a1) fun t7 =>
 some (decide (0 ≤ t7))
noncomputable def Jci (a0 : Int) : Option (Bool) :=
 some (decide (a0 < 32))
noncomputable def Jb9 (a0 : (List UInt8)) : Option (Bool) :=
 Jq (Ze (a0.length : Int) 1 60) fun t5 =>
 J6 (!t5) (Jq (gByt a0) fun t9 =>
 Jq (Yv t9 Jci) fun t10 =>
 some (!t10)) (some false)
noncomputable def J9 (a0 : (List Ta)) (a1 : Int) (a2 : (Ta → Int → Option (Int))) (x9 : Int) : Option (Int × Bool) :=
 J6 (decide (x9 < (a0.length : Int))) (Jq (Qk a0 x9) fun t43 =>
 Jq (a2 t43 a1) fun t46 =>
 some (x9, (decide (t46 = 0)))) (some (x9, false))
noncomputable def J1 (a0 : (List Ta)) (a1 : Int) (a2 : (Ta → Int → Option (Int))) (next2 : ((Int × Int) → Option (Int × Bool))) (x9_3 : Int) (x10_2 : Int) : Option (Int × Bool) :=
 J6 (decide (x9_3 < x10_2)) (Jq (gI (x9_3 + x10_2)) fun t20 =>
 Jq (gShr 64 (wU64 t20) 1) fun t22 =>
 Jq (Qk a0 (Jbx t22)) fun t27 =>
 Jq (a2 t27 a1) fun t30 =>
 J6 (decide (t30 < 0)) (Jq (gI ((Jbx t22) + 1)) fun t33 =>
 next2 (t33, x10_2)) (next2 (x9_3, (Jbx t22)))) (J9 a0 a1 a2 x9_3)
noncomputable def Xc (a0 : (List Ta)) (a1 : Int) (a2 : (Ta → Int → Option (Int))) : Option (Int × Bool) :=
 Zp (fun next2 s => J1 a0 a1 a2 next2 s.1 s.2) (0, (a0.length : Int))
noncomputable def Jba (a0 : Ta) (a1 : Int) : Option (Int) :=
 J6 (decide (a0.Id < a1)) (some (-1)) (J6 (decide (a1 < a0.Id)) (some 1) (some 0))
noncomputable def Jc0 (a0 : (List Ta)) (a1 : Int) : Option (Int × Bool) :=
 Jq (Xc a0 a1 Jba) fun t8 =>
 some (t8.1, t8.2)
noncomputable def Ug (x11_2 : Int) (next1 : ((Int) → Option (Int))) : Option (Int) :=
 Jq (gI (x11_2 + 1)) fun t35 =>
 next1 t35
noncomputable def V4 (a0 : (List Ta)) (a1 : (List Int)) (next1 : ((Int) → Option (Int))) (x11_2 : Int) : Option (Int) :=
 J6 (decide (x11_2 < (a1.length : Int))) (Jq (Qk a1 x11_2) fun t14 =>
 Jq (Jc0 a0 t14) fun t19 =>
 J6 (!t19.2) (some 7) (J6 (decide (0 < x11_2)) (Jq (gI (x11_2 - 1)) fun t30 =>
 Jq (Qk a1 t30) fun t31 =>
 J6 (decide (t14 ≤ t31)) (some 5) (Ug x11_2 next1)) (Ug x11_2 next1))) (some 0)
noncomputable def Jbp (a0 : (List Ta)) (a1 : (List Int)) : Option (Int) :=
 Zp (fun next1 s => V4 a0 a1 next1 s) 0
noncomputable def Jbj (a0 : Int) : Option (Bool) :=
 some (decide (a0 ≠ a0))
noncomputable def Jb6 (a0 : Int) (a1 : Int) : Option (Bool) :=
 Jq (Jbj a0) fun t6 =>
 J6 t6 (Jq (Jbj a1) fun t9 =>
 J6 (!t9) (some true) (some (decide (a0 < a1)))) (some (decide (a0 < a1)))
noncomputable def Uk (a0 : Int) : Option (Bool) :=
 some (decide (a0 ≠ a0))
noncomputable def Yh (a0 : (List Int)) (a1 : Int) (x7 : Int) : Option (Int × Bool) :=
 J6 (decide (x7 < (a0.length : Int))) (Jq (Qk a0 x7) fun t38 =>
 J6 (decide (t38 = a1)) (some (x7, true)) (Jq (Qk a0 x7) fun t45 =>
 Jq (Uk t45) fun t47 =>
 J6 t47 (Jq (Uk a1) fun t50 =>
 some (x7, t50)) (some (x7, false)))) (some (x7, false))
noncomputable def Q7 (a0 : (List Int)) (a1 : Int) (next2 : ((Int × Int) → Option (Int × Bool))) (x7_3 : Int) (x8_2 : Int) : Option (Int × Bool) :=
 J6 (decide (x7_3 < x8_2)) (Jq (gI (x7_3 + x8_2)) fun t18 =>
 Jq (gShr 64 (wU64 t18) 1) fun t20 =>
 Jq (Qk a0 (Jbx t20)) fun t24 =>
 Jq (Jb6 t24 a1) fun t27 =>
 J6 t27 (Jq (gI ((Jbx t20) + 1)) fun t29 =>
 next2 (t29, x8_2)) (next2 (x7_3, (Jbx t20)))) (Yh a0 a1 x7_3)
noncomputable def Vz (a0 : (List Int)) (a1 : Int) : Option (Int × Bool) :=
 Zp (fun next2 s => Q7 a0 a1 next2 s.1 s.2) (0, (a0.length : Int))
noncomputable def Jbk (a0 : (List Int)) (a1 : Int) : Option (Bool) :=
 Jq (Vz a0 a1) fun t10 =>
 some t10.2
noncomputable def Wb (q0 : Tb) (a0 : Int) : Option (Bool) :=
 Jq (Jbk q0.Nots a0) fun t7 =>
 some t7
noncomputable def Um (a1 : Tb) : Option (Int) :=
 Jq (X8 a1.Likes (Wb a1)) fun t32 =>
 J6 t32 (some 11) (some 0)
noncomputable def Xe (a0 : (List Ta)) (a1 : Tb) (next2 : ((Int) → Option (Int))) (x18_2 : Int) : Option (Int) :=
 J6 (decide (x18_2 < 2)) (Jq (Qk ([a1.Likes, a1.Nots] : List (List Int)) x18_2) fun t20 =>
 Jq (Jbp a0 t20) fun t24 =>
 J6 (decide (t24 ≠ 0)) (some t24) (Jq (gI (x18_2 + 1)) fun t28 =>
 next2 t28)) (Um a1)
noncomputable def Ul (a0 : (List Ta)) (a1 : Tb) : Option (Int) :=
 Jq (Jb9 a1.Name) fun t10 =>
 J6 (!t10) (some 3) (Zp (fun next2 s => Xe a0 a1 next2 s) 0)
noncomputable def Jcb (a0 : (List Ta)) (a1 : Int) : Option (Int) :=
 Jq (Jc0 a0 a1) fun t10 =>
 Jq (Qk a0 t10.1) fun t15 =>
 some t15.Photo
noncomputable def Zn (a0 : (List Ta)) (a1 : (List Int)) (next1 : ((Int × (List Int)) → Option ((List Int)))) (x10_2 : Int) (l_2 : (List Int)) : Option ((List Int)) :=
 J6 (decide (x10_2 < (a1.length : Int))) (Jq (Qk a1 x10_2) fun t12 =>
 Jq (Jcb a0 t12) fun t17 =>
 Jq (Ja4 8 l_2 ([t17] : List Int)) fun l19 =>
 Jq (gI (x10_2 + 1)) fun t20 =>
 next1 (t20, l19)) (some l_2)
noncomputable def Jbm (a0 : (List Ta)) (a1 : (List Int)) : Option ((List Int)) :=
 Zp (fun next1 s => Zn a0 a1 next1 s.1 s.2) (0, ([] : List Int))
noncomputable def Jaf (q0 : (List (Int × Bool))) (a0 : Int) : Option (Bool) :=
 some ((Jcp q0 a0).getD false)
noncomputable def Qo (a0 : (List (List Int))) (u24 : Nat) (next2 : ((Int × (List Int)) → Option ((List Int)))) (x27_2 : Int) (l_2 : (List Int)) : Option ((List Int)) :=
 J6 (decide (x27_2 < (a0.length : Int))) (Jq (Qk a0 x27_2) fun t29 =>
 Jq (gApC u24 l_2 t29) fun l33 =>
 Jq (gI (x27_2 + 1)) fun t34 =>
 next2 (t34, l33)) (some l_2)
noncomputable def W3 (a0 : (List (List Int))) (x3 : Int) : Option ((List Int)) :=
 Jq (gGroC 8 x3) fun u24 =>
 Zp (fun next2 s => Qo a0 u24 next2 s.1 s.2) (0, ([] : List Int))
noncomputable def Qn (a0 : (List (List Int))) (next3 : ((Int × Int) → Option ((List Int)))) (x3_3 : Int) (x11_2 : Int) : Option ((List Int)) :=
 J6 (decide (x11_2 < (a0.length : Int))) (Jq (Qk a0 x11_2) fun t13 =>
 Jq (gI (x3_3 + (t13.length : Int))) fun t18 =>
 J6 (decide (t18 < 0)) (none) (Jq (gI (x11_2 + 1)) fun t22 =>
 next3 (t18, t22))) (W3 a0 x3_3)
noncomputable def Ww (a0 : (List (List Int))) : Option ((List Int)) :=
 Zp (fun next3 s => Qn a0 next3 s.1 s.2) (0, 0)
noncomputable def Jd9 (a0 : (List Int)) (a1 : (List Int)) : Option ((List Int)) :=
 Jq (Ww ([a0, a1] : List (List Int))) fun t9 =>
 Jq (gSortI t9) fun t11 =>
 Jq (gCmpI t11) fun t13 =>
 some t13
noncomputable def Jb0 (x24_2 : Int) (next1 : ((Int × (List (Int × Bool))) → Option (Int))) (x62 : Int) (x64 : Int) (x65 : Bool) (l : (List Int)) (l_2 : (List Int)) (mp_3 : (List (Int × Bool))) : Option (Int) :=
 Jq (gI (x24_2 + 1)) fun t77 =>
 next1 (t77, mp_3)
noncomputable def Yi (x24_2 : Int) (next1 : ((Int × (List (Int × Bool))) → Option (Int))) (t27 : Tb) (t54 : ((List Int))) (t61 : ((List Int))) (next4 : ((Int × (List (Int × Bool))) → Option (Int))) (x70_2 : Int) (mp_5 : (List (Int × Bool))) : Option (Int) :=
 J6 (decide (x70_2 < (t27.Likes.length : Int))) (Jq (Qk t27.Likes x70_2) fun t72 =>
 Jq (gI (x70_2 + 1)) fun t76 =>
 next4 (t76, (Ja3 mp_5 t72 true))) (Jb0 x24_2 next1 (t61.length : Int) (t54.length : Int) (decide ((t61.length : Int) < (t54.length : Int))) t54 t61 mp_5)
noncomputable def Qu (a0 : (List Ta)) (x24_2 : Int) (mp_2 : (List (Int × Bool))) (next1 : ((Int × (List (Int × Bool))) → Option (Int))) (t27 : Tb) : Option (Int) :=
 Jq (Ul a0 t27) fun t47 =>
 J6 (decide (t47 ≠ 0)) (some t47) (Jq (Jbm a0 t27.Likes) fun t54 =>
 Jq (X8 t27.Likes (Jaf mp_2)) fun t58 =>
 J6 t58 (some 6) (Jq (Jd9 t54 ([] : (List Int))) fun t61 =>
 J6 (decide ((t61.length : Int) < (t54.length : Int))) (some 6) (Zp (fun next4 s => Yi x24_2 next1 t27 t54 t61 next4 s.1 s.2) (0, mp_2))))
noncomputable def J2 (a0 : (List Ta)) (a1 : (List Tb)) (next1 : ((Int × (List (Int × Bool))) → Option (Int))) (x24_2 : Int) (mp_2 : (List (Int × Bool))) : Option (Int) :=
 J6 (decide (x24_2 < (a1.length : Int))) (Jq (Qk a1 x24_2) fun t27 =>
 Jq (Ze t27.Id 1 1000000) fun t31 =>
 J6 t31 (some 2) (J6 (decide (0 < x24_2)) (Jq (gI (x24_2 - 1)) fun t39 =>
 Jq (Qk a1 t39) fun t40 =>
 J6 (decide (t27.Id ≤ t40.Id)) (some 5) (Qu a0 x24_2 mp_2 next1 t27)) (Qu a0 x24_2 mp_2 next1 t27))) (some 0)
noncomputable def Qj (a0 : (List Ta)) (a1 : (List Tb)) : Option (Int) :=
 Jq (Ja8 a0) fun t14 =>
 J6 (decide (t14 ≠ 0)) (some t14) (J6 (decide (100 < (a1.length : Int))) (some 4) (Zp (fun next1 s => J2 a0 a1 next1 s.1 s.2) (0, ([] : (List (Int × Bool))))))
noncomputable def Jdq (m : (List UInt8)) : Option ((List UInt8)) :=
 some m
noncomputable def Z4 (a0 : (List Int)) (next2 : ((Int × (List UInt8)) → Option ((List UInt8)))) (x8_2 : Int) (m_3 : (List UInt8)) : Option ((List UInt8)) :=
 J6 (decide (x8_2 < (a0.length : Int))) (Jq (Qk a0 x8_2) fun t10 =>
 Jq (gItoa t10) fun t13 =>
 Jq (Vi [32] t13) fun t14 =>
 Jq (gBld m_3 t14) fun t15 =>
 Jq (gI (x8_2 + 1)) fun t16 =>
 next2 (t16, t15)) (Jdq m_3)
noncomputable def Qw (a0 : (List Int)) : Option ((List UInt8)) :=
 Zp (fun next2 s => Z4 a0 next2 s.1 s.2) (0, [])
noncomputable def Wc (m_2 : (List UInt8)) : Option ((List UInt8) × Int) :=
 J6 (decide (1000000 < (m_2.length : Int))) (some ([], 4)) (some (m_2, 0))
noncomputable def Ub (a1 : (List Tb)) (next3 : ((Int × (List UInt8)) → Option ((List UInt8) × Int))) (x40_2 : Int) (m_4 : (List UInt8)) : Option ((List UInt8) × Int) :=
 J6 (decide (x40_2 < (a1.length : Int))) (Jq (Qk a1 x40_2) fun t42 =>
 Jq (Qw ([t42.Id] : List Int)) fun t47 =>
 Jq (Vi [112, 101, 114, 115, 111, 110] t47) fun t48 =>
 Jq (Vi t48 [32]) fun t49 =>
 Jq (Vi t49 t42.Name) fun t52 =>
 Jq (Vi t52 [10]) fun t53 =>
 Jq (gBld m_4 t53) fun t54 =>
 Jq (Qw t42.Likes) fun t57 =>
 Jq (Vi [108, 105, 107, 101, 115] t57) fun t58 =>
 Jq (Vi t58 [10]) fun t59 =>
 Jq (gBld t54 t59) fun t60 =>
 Jq (Qw t42.Nots) fun t63 =>
 Jq (Vi [110, 111, 116, 115] t63) fun t64 =>
 Jq (Vi t64 [10]) fun t65 =>
 Jq (gBld t60 t65) fun t66 =>
 Jq (gI (x40_2 + 1)) fun t67 =>
 next3 (t67, t66)) (Wc m_4)
noncomputable def Jay (a1 : (List Tb)) (m : (List UInt8)) : Option ((List UInt8) × Int) :=
 Zp (fun next3 s => Ub a1 next3 s.1 s.2) (0, m)
noncomputable def Wg (a0 : (List Ta)) (a1 : (List Tb)) (next4 : ((Int × (List UInt8)) → Option ((List UInt8) × Int))) (x20_2 : Int) (m_6 : (List UInt8)) : Option ((List UInt8) × Int) :=
 J6 (decide (x20_2 < (a0.length : Int))) (Jq (Qk a0 x20_2) fun t22 =>
 Jq (Qw ([t22.Id, t22.Photo] : List Int)) fun t29 =>
 Jq (Vi [102, 97, 99, 101] t29) fun t30 =>
 Jq (Qw ((List.range 12).map t22.Vec)) fun t33 =>
 Jq (Vi t30 t33) fun t34 =>
 Jq (Vi t34 [10]) fun t35 =>
 Jq (gBld m_6 t35) fun t36 =>
 Jq (gI (x20_2 + 1)) fun t37 =>
 next4 (t37, t36)) (Jay a1 m_6)
noncomputable def Jbf (a0 : (List Ta)) (a1 : (List Tb)) : Option ((List UInt8) × Int) :=
 Jq (Qj a0 a1) fun t14 =>
 J6 (decide (t14 ≠ 0)) (some ([], t14)) (Zp (fun next4 s => Wg a0 a1 next4 s.1 s.2) (0, []))
noncomputable def Zs (a0 : (List UInt8)) (a1 : Int) (a3 : Int) (x2 : (List UInt8)) : Option (Bool) :=
 J6 (decide (a0 = x2)) (some (decide (a1 = a3))) (some false)
noncomputable def U6 (a0 : (List UInt8)) (a1 : Int) (a2 : (List UInt8)) (a3 : Int) : Option (Bool) :=
 J6 (decide (a3 ≠ 0)) (Zs a0 a1 a3 []) (Zs a0 a1 a3 a2)
noncomputable def Xq (a0 : (List UInt8)) (a1 : Int) : Option (Int) :=
 Jq (gIxB a0 a1) fun t7 =>
 some t7
noncomputable def Xk (a0 : (List UInt8)) (a1 : (List UInt8)) : Option (Int) :=
 J6 (decide ((a1.length : Int) = 0)) (some 0) (J6 (decide (a1 = a0)) (some 0) (J6 (decide ((a1.length : Int) = 1)) (Jq (Uw a1 0) fun t29 =>
 Jq (Xq a0 t29) fun t30 =>
 some t30) (J6 (decide ((a0.length : Int) ≤ (a1.length : Int))) (some (-1)) (none))))
noncomputable def Vj (a0 : (List UInt8)) (a1 : (List UInt8)) : Option ((List UInt8) × (List UInt8) × Bool) :=
 Jq (Xk a0 a1) fun t10 =>
 J6 (decide (0 ≤ t10)) (Jq (Qd a0 0 t10) fun t15 =>
 Jq (gI (t10 + (a1.length : Int))) fun t20 =>
 Jq (Qd a0 t20 a0.length) fun t21 =>
 some (t15, t21, true)) (some (a0, [], false))
noncomputable def Jam (a0 : (List UInt8)) (a1 : (List UInt8)) : Option ((List UInt8) × (List UInt8) × Bool) :=
 Jq (Vj a0 a1) fun t9 =>
 some (t9.1, t9.2.1, t9.2.2)
noncomputable def Yd (a0 : (List UInt8)) (next1 : ((Int × Nat) → Option (Int))) (x2_2 : Int) (k_2 : Nat) : Option (Int) :=
 J6 (decide (k_2 < a0.length)) (Jq (gNx a0 k_2) fun t5 =>
 Jq (gI (x2_2 + 1)) fun t8 =>
 next1 (t8, (k_2 + 1))) (some x2_2)
noncomputable def Yr (a0 : (List UInt8)) : Option (Int) :=
 Zp (fun next1 s => Yd a0 next1 s.1 s.2) (0, 0)
noncomputable def Zh (a0 : (List UInt8)) : Option (Int × Int) :=
 J6 (decide ((a0.length : Int) < 1)) (some (65533, 0)) (none)
noncomputable def X3 (a0 : (List UInt8)) (x10 : Bool) : Option (Int × Int) :=
 J6 x10 (Jq (Uw a0 0) fun t12 =>
 Jq (gK (-2147483648) 2147483647 t12) fun t13 =>
 some (t13, 1)) (Jq (Zh a0) fun t16 =>
 some (t16.1, t16.2))
noncomputable def Xh (a0 : (List UInt8)) : Option (Int × Int) :=
 J6 (decide (a0 ≠ [])) (Jq (Uw a0 0) fun t8 =>
 X3 a0 (decide (t8 < 128))) (X3 a0 false)
noncomputable def Jcj (x1 : Int) (x0 : (List UInt8)) (l : (List (List UInt8))) : Option ((List (List UInt8))) :=
 J6 (decide (0 < x1)) (Jq (gI (x1 - 1)) fun t46 =>
 Jq (Qk l t46) fun t48 =>
 Jq (gSet l t46 x0) fun l0 =>
 some l0) (some l)
noncomputable def Jag (x1 : Int) (next3 : (((List UInt8) × Int × (List (List UInt8))) → Option ((List (List UInt8))))) (x0_3 : (List UInt8)) (x7_2 : Int) (l_3 : (List (List UInt8))) : Option ((List (List UInt8))) :=
 Jq (gI (x1 - 1)) fun t24 =>
 J6 (decide (x7_2 < t24)) (Jq (Xh x0_3) fun t30 =>
 Jq (Qd x0_3 0 t30.2) fun t37 =>
 Jq (Qk l_3 x7_2) fun t38 =>
 Jq (gSet l_3 x7_2 t37) fun l0_2 =>
 Jq (Qd x0_3 t30.2 x0_3.length) fun t41 =>
 Jq (gI (x7_2 + 1)) fun t27 =>
 next3 (t41, t27, l0_2)) (Jcj x1 x0_3 l_3)
noncomputable def Wa (a0 : (List UInt8)) (x1 : Int) : Option ((List (List UInt8))) :=
 Jq (gMake 16 x1 []) fun t21 =>
 Zp (fun next3 s => Jag x1 next3 s.1 s.2.1 s.2.2) (a0, 0, t21)
noncomputable def Jds (a0 : (List UInt8)) (a1 : Int) : Option ((List (List UInt8))) :=
 Jq (Yr a0) fun t11 =>
 J6 (decide (a1 < 0)) (Wa a0 t11) (J6 (decide (t11 < a1)) (Wa a0 t11) (Wa a0 a1))
noncomputable def U0 (a0 : (List UInt8)) (a1 : (List UInt8)) : Option (Int) :=
 Jq (Xk a0 a1) fun t7 =>
 some t7
noncomputable def Ja9 (a1 : (List UInt8)) (next1 : (((List UInt8) × Int) → Option (Int))) (x0_2 : (List UInt8)) (x5_2 : Int) : Option (Int) :=
 Jq (U0 x0_2 a1) fun t22 =>
 J6 (decide (t22 = (-1))) (some x5_2) (Jq (gI (x5_2 + 1)) fun t27 =>
 Jq (gI (t22 + (a1.length : Int))) fun t32 =>
 Jq (Qd x0_2 t32 x0_2.length) fun t33 =>
 next1 (t33, t27))
noncomputable def Jbn (a0 : (List UInt8)) (a1 : (List UInt8)) : Option (Int) :=
 J6 (decide ((a1.length : Int) = 0)) (Jq (Yr a0) fun t11 =>
 Jq (gI (t11 + 1)) fun t12 =>
 some t12) (J6 (decide ((a1.length : Int) = 1)) (Jq (Uw a1 0) fun t18 =>
 Jq (gCnB a0 t18) fun t19 =>
 some t19) (Zp (fun next1 s => Ja9 a1 next1 s.1 s.2) (a0, 0)))
noncomputable def Y9 (x0 : (List UInt8)) (x10 : Int) (l : (List (List UInt8))) : Option ((List (List UInt8))) :=
 Jq (Qk l x10) fun t61 =>
 Jq (gSet l x10 x0) fun l0 =>
 Jq (gI (x10 + 1)) fun t64 =>
 Jq (Qd l0 0 t64) fun t65 =>
 some t65
noncomputable def Q0 (a1 : (List UInt8)) (a2 : Int) (t33 : Int) (next3 : (((List UInt8) × Int × (List (List UInt8))) → Option ((List (List UInt8))))) (x0_3 : (List UInt8)) (x10_3 : Int) (l_3 : (List (List UInt8))) : Option ((List (List UInt8))) :=
 J6 (decide (x10_3 < t33)) (Jq (U0 x0_3 a1) fun t39 =>
 J6 (decide (t39 < 0)) (Y9 x0_3 x10_3 l_3) (Jq (gI (t39 + a2)) fun t47 =>
 Jq (Qd x0_3 0 t47) fun t48 =>
 Jq (Qk l_3 x10_3) fun t49 =>
 Jq (gSet l_3 x10_3 t48) fun l0_2 =>
 Jq (gI (t39 + (a1.length : Int))) fun t54 =>
 Jq (Qd x0_3 t54 x0_3.length) fun t55 =>
 Jq (gI (x10_3 + 1)) fun t57 =>
 next3 (t55, t57, l0_2))) (Y9 x0_3 x10_3 l_3)
noncomputable def Vn (a0 : (List UInt8)) (a1 : (List UInt8)) (a2 : Int) (x3 : Int) : Option ((List (List UInt8))) :=
 Jq (gI ((a0.length : Int) + 1)) fun t28 =>
 Jq (gMake 16 (min x3 t28) []) fun t31 =>
 Jq (gI ((min x3 t28) - 1)) fun t33 =>
 Zp (fun next3 s => Q0 a1 a2 t33 next3 s.1 s.2.1 s.2.2) (a0, 0, t31)
noncomputable def Vt (a0 : (List UInt8)) (a1 : (List UInt8)) (a2 : Int) (a3 : Int) : Option ((List (List UInt8))) :=
 J6 (decide (a3 = 0)) (some ([] : List (List UInt8))) (J6 (decide (a1 = [])) (Jq (Jds a0 a3) fun t18 =>
 some t18) (J6 (decide (a3 < 0)) (Jq (Jbn a0 a1) fun t23 =>
 Jq (gI (t23 + 1)) fun t24 =>
 Vn a0 a1 a2 t24) (Vn a0 a1 a2 a3)))
noncomputable def U2 (a0 : (List UInt8)) (a1 : (List UInt8)) : Option ((List (List UInt8))) :=
 Jq (Vt a0 a1 0 (-1)) fun t7 =>
 some t7
noncomputable def Xo (a0 : (List UInt8)) (a1 : (List UInt8)) : Option (Bool) :=
 J6 (decide ((a1.length : Int) ≤ (a0.length : Int))) (Jq (Qd a0 0 (a1.length : Int)) fun t14 =>
 some (decide (t14 = a1))) (some false)
noncomputable def Yl (a0 : (List UInt8)) (a1 : (List UInt8)) : Option ((List UInt8)) :=
 Jq (Xo a0 a1) fun t7 =>
 J6 t7 (Jq (Qd a0 (a1.length : Int) a0.length) fun t11 =>
 some t11) (some a0)
noncomputable def Zx (a0 : (List UInt8)) (a1 : (List UInt8)) : Option ((List UInt8)) :=
 Jq (Yl a0 a1) fun t7 =>
 some t7
noncomputable def Vr (a1 : Int) (next1 : (((List UInt8)) → Option ((List UInt8)))) (x0_2 : (List UInt8)) : Option ((List UInt8)) :=
 J6 (decide (0 < (x0_2.length : Int))) (Jq (Uw x0_2 0) fun t10 =>
 J6 (decide (t10 = a1)) (Jq (Qd x0_2 1 x0_2.length) fun t15 =>
 next1 t15) (some x0_2)) (some x0_2)
noncomputable def Z7 (a0 : (List UInt8)) (a1 : Int) : Option ((List UInt8)) :=
 Zp (fun next1 s => Vr a1 next1 s) a0
noncomputable def Vd (a1 : Int) (next1 : (((List UInt8)) → Option ((List UInt8)))) (x0_2 : (List UInt8)) : Option ((List UInt8)) :=
 J6 (decide (0 < (x0_2.length : Int))) (Jq (gI ((x0_2.length : Int) - 1)) fun t12 =>
 Jq (Uw x0_2 t12) fun t13 =>
 J6 (decide (t13 = a1)) (Jq (gI ((x0_2.length : Int) - 1)) fun t20 =>
 Jq (Qd x0_2 0 t20) fun t21 =>
 next1 t21) (some x0_2)) (some x0_2)
noncomputable def Zy (a0 : (List UInt8)) (a1 : Int) : Option ((List UInt8)) :=
 Zp (fun next1 s => Vd a1 next1 s) a0
noncomputable def Jao (m : (Nat → Bool)) : Option ((Nat → Bool) × Bool) :=
 some (m, true)
noncomputable def Qz (a0 : (List UInt8)) (next2 : ((Int × (Nat → Bool)) → Option ((Nat → Bool) × Bool))) (x4_2 : Int) (m_3 : (Nat → Bool)) : Option ((Nat → Bool) × Bool) :=
 J6 (decide (x4_2 < (a0.length : Int))) (Jq (Uw a0 x4_2) fun t14 =>
 J6 (decide (128 ≤ t14)) (some (m_3, false)) (Jq (gIx 256 t14) fun k19 =>
 Jq (gI (x4_2 + 1)) fun t11 =>
 next2 (t11, (Jae m_3 k19 true)))) (Jao m_3)
noncomputable def Z9 (a0 : (List UInt8)) : Option ((Nat → Bool) × Bool) :=
 Zp (fun next2 s => Qz a0 next2 s.1 s.2) (0, (fun _ => false))
noncomputable def Xt (a0 : (Nat → Bool)) (a1 : Int) : Option (Bool × (Nat → Bool)) :=
 Jq (gIx 256 a1) fun k8 =>
 some ((a0 k8), a0)
noncomputable def Xy (next1 : (((List UInt8) × (Nat → Bool)) → Option ((List UInt8) × (Nat → Bool)))) (x0_2 : (List UInt8)) (m_2 : (Nat → Bool)) : Option ((List UInt8) × (Nat → Bool)) :=
 J6 (decide (0 < (x0_2.length : Int))) (Jq (Uw x0_2 0) fun t10 =>
 Jq (Xt m_2 t10) fun t11 =>
 J6 (!t11.1) (some (x0_2, t11.2)) (Jq (Qd x0_2 1 x0_2.length) fun t14 =>
 next1 (t14, t11.2))) (some (x0_2, m_2))
noncomputable def Zz (a0 : (List UInt8)) (a1 : (Nat → Bool)) : Option ((List UInt8) × (Nat → Bool)) :=
 Zp (fun next1 s => Xy next1 s.1 s.2) (a0, a1)
noncomputable def Xr (next1 : (((List UInt8) × (Nat → Bool)) → Option ((List UInt8) × (Nat → Bool)))) (x0_2 : (List UInt8)) (m_2 : (Nat → Bool)) : Option ((List UInt8) × (Nat → Bool)) :=
 J6 (decide (0 < (x0_2.length : Int))) (Jq (gI ((x0_2.length : Int) - 1)) fun t12 =>
 Jq (Uw x0_2 t12) fun t13 =>
 Jq (Xt m_2 t13) fun t14 =>
 J6 (!t14.1) (some (x0_2, t14.2)) (Jq (gI ((x0_2.length : Int) - 1)) fun t19 =>
 Jq (Qd x0_2 0 t19) fun t20 =>
 next1 (t20, t14.2))) (some (x0_2, m_2))
noncomputable def Zb (a0 : (List UInt8)) (a1 : (Nat → Bool)) : Option ((List UInt8) × (Nat → Bool)) :=
 Zp (fun next1 s => Xr next1 s.1 s.2) (a0, a1)
noncomputable def Jcy (a0 : (List UInt8)) (a1 : Int) : Option (Int) :=
 Jq (Xq a0 a1) fun t7 =>
 some t7
noncomputable def Z2 (a0 : Int) (x3 : Bool) : Option (Bool) :=
 J6 x3 (some true) (J6 (decide (57343 < a0)) (J6 (decide (a0 ≤ 1114111)) (some true) (some false)) (some false))
noncomputable def Jaw (a0 : Int) : Option (Bool) :=
 J6 (decide (0 ≤ a0)) (Z2 a0 (decide (a0 < 55296))) (Z2 a0 false)
noncomputable def W9 (a0 : (List UInt8)) (next2 : ((Nat) → Option (Int))) (k_2 : Nat) : Option (Int) :=
 J6 (decide (k_2 < a0.length)) (Jq (gNx a0 k_2) fun t176 =>
 J6 (decide (t176 = 65533)) (some ((k_2 : Nat) : Int)) (next2 (k_2 + 1))) (some (-1))
noncomputable def W7 (a0 : (List UInt8)) (a1 : Int) (x160 : Bool) : Option (Int) :=
 J6 x160 (Jq (Jcy a0 (wU8 a1)) fun t170 =>
 some t170) (J6 (decide (a1 = 65533)) (Zp (fun next2 s => W9 a0 next2 s) 0) (Jq (Jaw a1) fun t185 =>
 J6 (!t185) (some (-1)) (none)))
noncomputable def Jcw (a0 : (List UInt8)) (a1 : Int) : Option (Int) :=
 J6 (decide (0 ≤ a1)) (W7 a0 a1 (decide (a1 < 128))) (W7 a0 a1 false)
noncomputable def W2 (a0 : (List UInt8)) (a1 : Int) : Option (Bool) :=
 Jq (Jcw a0 a1) fun t7 =>
 some (decide (0 ≤ t7))
noncomputable def Zq (a1 : (List UInt8)) (next1 : (((List UInt8)) → Option ((List UInt8)))) (x0_2 : (List UInt8)) : Option ((List UInt8)) :=
 J6 (decide (0 < (x0_2.length : Int))) (Jq (Xh x0_2) fun t12 =>
 Jq (W2 a1 t12.1) fun t17 =>
 J6 (!t17) (some x0_2) (Jq (Qd x0_2 t12.2 x0_2.length) fun t21 =>
 next1 t21)) (some x0_2)
noncomputable def Jal (a0 : (List UInt8)) (a1 : (List UInt8)) : Option ((List UInt8)) :=
 Zp (fun next1 s => Zq a1 next1 s) a0
noncomputable def Jar (a0 : Int) : Option (Bool) :=
 some (decide ((wU8 (bAnd 8 a0 192)) ≠ 128))
noncomputable def Xi (a0 : (List UInt8)) (x5_2 : Int) : Option (Int × Int) :=
 Jq (Qd a0 x5_2 (a0.length : Int)) fun t40 =>
 Jq (Xh t40) fun t41 =>
 Jq (gI (x5_2 + t41.2)) fun t46 =>
 J6 (decide (t46 ≠ (a0.length : Int))) (some (65533, 1)) (some (t41.1, t41.2))
noncomputable def Xj (a0 : (List UInt8)) (x5 : Int) : Option (Int × Int) :=
 J6 (decide (x5 < 0)) (Xi a0 0) (Xi a0 x5)
noncomputable def Xm (a0 : (List UInt8)) (t21 : Int) (next3 : ((Int) → Option (Int × Int))) (x5_4 : Int) : Option (Int × Int) :=
 J6 (decide ((max t21 0) ≤ x5_4)) (Jq (Uw a0 x5_4) fun t32 =>
 Jq (Jar t32) fun t33 =>
 J6 t33 (Xj a0 x5_4) (Jq (gI (x5_4 - 1)) fun t29 =>
 next3 t29)) (Xj a0 x5_4)
noncomputable def Zg (a0 : (List UInt8)) : Option (Int × Int) :=
 J6 (decide ((a0.length : Int) = 0)) (some (65533, 0)) (Jq (gI ((a0.length : Int) - 1)) fun t12 =>
 Jq (Uw a0 t12) fun t15 =>
 Jq (gK (-2147483648) 2147483647 t15) fun t16 =>
 J6 (decide (t16 < 128)) (some (t16, 1)) (Jq (gI ((a0.length : Int) - 4)) fun t21 =>
 Jq (gI (t12 - 1)) fun t24 =>
 Zp (fun next3 s => Xm a0 t21 next3 s) t24))
noncomputable def Zd (a1 : (List UInt8)) (x0_2 : (List UInt8)) (next1 : (((List UInt8)) → Option ((List UInt8)))) (x5 : Int) (x6 : Int) : Option ((List UInt8)) :=
 Jq (W2 a1 x5) fun t25 =>
 J6 (!t25) (some x0_2) (Jq (gI ((x0_2.length : Int) - x6)) fun t31 =>
 Jq (Qd x0_2 0 t31) fun t32 =>
 next1 t32)
noncomputable def Za (a1 : (List UInt8)) (next1 : (((List UInt8)) → Option ((List UInt8)))) (x0_2 : (List UInt8)) : Option ((List UInt8)) :=
 J6 (decide (0 < (x0_2.length : Int))) (Jq (gI ((x0_2.length : Int) - 1)) fun t13 =>
 Jq (Uw x0_2 t13) fun t14 =>
 Jq (gK (-2147483648) 2147483647 t14) fun t15 =>
 J6 (decide (128 ≤ t15)) (Jq (Zg x0_2) fun t20 =>
 Zd a1 x0_2 next1 t20.1 t20.2) (Zd a1 x0_2 next1 t15 1)) (some x0_2)
noncomputable def U1 (a0 : (List UInt8)) (a1 : (List UInt8)) : Option ((List UInt8)) :=
 Zp (fun next1 s => Za a1 next1 s) a0
noncomputable def U9 (a0 : (List UInt8)) (a1 : (List UInt8)) : Option ((List UInt8)) :=
 Jq (Z9 a1) fun t31 =>
 J6 t31.2 (Jq (Zb a0 t31.1) fun t36 =>
 Jq (Zz t36.1 t36.2) fun t37 =>
 some t37.1) (Jq (U1 a0 a1) fun t40 =>
 Jq (Jal t40 a1) fun t42 =>
 some t42)
noncomputable def Ue (a0 : (List UInt8)) (a1 : (List UInt8)) : Option ((List UInt8)) :=
 J6 (decide (a0 = [])) (some a0) (J6 (decide (a1 = [])) (some a0) (J6 (decide ((a1.length : Int) = 1)) (Jq (Uw a1 0) fun t19 =>
 J6 (decide (t19 < 128)) (Jq (Uw a1 0) fun t24 =>
 Jq (Zy a0 t24) fun t25 =>
 Jq (Uw a1 0) fun t27 =>
 Jq (Z7 t25 t27) fun t28 =>
 some t28) (U9 a0 a1)) (U9 a0 a1)))
noncomputable def Zw (a0 : (List UInt8)) (x6 : (List UInt8)) : Option (Int × Bool) :=
 J6 (decide (x6 = [])) (some (0, false)) (J6 (decide (7 < (x6.length : Int))) (some (0, false)) (Jq (Ue x6 [48, 49, 50, 51, 52, 53, 54, 55, 56, 57]) fun t22 =>
 J6 (decide (t22 ≠ [])) (some (0, false)) (Jq (Je5 a0) fun t27 =>
 Jq (gItoa t27) fun t35 =>
 some (t27, (decide (t35 = a0))))))
noncomputable def Jan (a0 : (List UInt8)) (a1 : Bool) : Option (Int × Bool) :=
 J6 a1 (Jq (Zx a0 [45]) fun t12 =>
 Zw a0 t12) (Zw a0 a0)
noncomputable def Vl (a0 : Tc) (m : (Nat → Int)) : Option (Bool × Tc) :=
 Jq (Ja4 112 a0.l_ ([(⟨(m 0), (m 1), (fun i_ : Nat => m (i_ + 2))⟩ : Ta)] : List Ta)) fun l47 =>
 some (true, (⟨l47, a0.people_, a0.want_⟩ : Tc))
noncomputable def Y5 (a0 : Tc) (a1 : (List (List UInt8))) (next2 : ((Int × (Nat → Int)) → Option (Bool × Tc))) (x15_2 : Int) (m_3 : (Nat → Int)) : Option (Bool × Tc) :=
 J6 (decide (x15_2 < (a1.length : Int))) (Jq (Qk a1 x15_2) fun t18 =>
 Jq (Jan t18 (decide (2 ≤ x15_2))) fun t24 =>
 J6 (!t24.2) (some (false, a0)) (Jq (gIx 14 x15_2) fun k31 =>
 Jq (gI (x15_2 + 1)) fun t32 =>
 next2 (t32, (Jae m_3 k31 t24.1)))) (Vl a0 m_3)
noncomputable def Uj (a0 : Tc) (a1 : (List (List UInt8))) : Option (Bool × Tc) :=
 J6 (decide ((a1.length : Int) ≠ 14)) (some (false, a0)) (Zp (fun next2 s => Y5 a0 a1 next2 s.1 s.2) (0, (fun _ => 0)))
noncomputable def Zt (a0 : Tc) (a1 : (List UInt8)) : Option (Bool × Tc) :=
 Jq (Jam a1 [32]) fun t12 =>
 Jq (Jan t12.1 false) fun t18 =>
 Jq (Ja4 72 a0.people_ ([(⟨t18.1, t12.2.1, ([] : (List Int)), ([] : (List Int))⟩ : Tb)] : List Tb)) fun l30 =>
 J6 t12.2.2 (some (t18.2, (⟨a0.l_, l30, 1⟩ : Tc))) (some (false, (⟨a0.l_, l30, 1⟩ : Tc)))
noncomputable def Yj (a0 : Tc) (l : (List Int)) : Option (Bool × Tc) :=
 Jq (gI ((a0.people_.length : Int) - 1)) fun t38 =>
 Jq (Qk a0.people_ t38) fun t39 =>
 J6 (decide (a0.want_ = 1)) (Jq (gSet a0.people_ t38 (⟨t39.Id, t39.Name, l, t39.Nots⟩ : Tb)) fun l5 =>
 some (true, (⟨a0.l_, l5, 2⟩ : Tc))) (Jq (gSet a0.people_ t38 (⟨t39.Id, t39.Name, t39.Likes, l⟩ : Tb)) fun l5_2 =>
 some (true, (⟨a0.l_, l5_2, 3⟩ : Tc)))
noncomputable def Y7 (a0 : Tc) (a1 : (List (List UInt8))) (next2 : ((Int × (List Int)) → Option (Bool × Tc))) (x13_2 : Int) (l_3 : (List Int)) : Option (Bool × Tc) :=
 J6 (decide (x13_2 < (a1.length : Int))) (Jq (Qk a1 x13_2) fun t15 =>
 Jq (Jan t15 false) fun t19 =>
 J6 (!t19.2) (some (false, a0)) (Jq (Ja4 8 l_3 ([t19.1] : List Int)) fun l27 =>
 Jq (gI (x13_2 + 1)) fun t28 =>
 next2 (t28, l27))) (Yj a0 l_3)
noncomputable def Vp (a0 : Tc) (a1 : (List (List UInt8))) : Option (Bool × Tc) :=
 Zp (fun next2 s => Y7 a0 a1 next2 s.1 s.2) (0, ([] : List Int))
noncomputable def Xw (a0 : Tc) (t11 : ((List UInt8) × (List UInt8) × Bool)) (t17 : (List (List UInt8))) (x51 : Bool) : Option (Bool × Tc) :=
 J6 x51 (J6 x51 (Jq (Vp a0 t17) fun t72 =>
 some (t72.1, t72.2)) (some (false, a0))) (J6 (decide (a0.want_ = 2)) (J6 (decide (t11.1 = [110, 111, 116, 115])) (Jq (Vp a0 t17) fun t72_2 =>
 some (t72_2.1, t72_2.2)) (some (false, a0))) (some (false, a0)))
noncomputable def Xu (a0 : Tc) (t11 : ((List UInt8) × (List UInt8) × Bool)) (t17 : (List (List UInt8))) (x31 : Bool) : Option (Bool × Tc) :=
 J6 x31 (Jq (Zt a0 t11.2.1) fun t50 =>
 some (t50.1, t50.2)) (J6 (decide (a0.want_ = 1)) (Xw a0 t11 t17 (decide (t11.1 = [108, 105, 107, 101, 115]))) (Xw a0 t11 t17 false))
noncomputable def Yk (a0 : Tc) (t11 : ((List UInt8) × (List UInt8) × Bool)) (t17 : (List (List UInt8))) (x18 : Bool) : Option (Bool × Tc) :=
 J6 x18 (Jq (Uj a0 t17) fun t30 =>
 some (t30.1, t30.2)) (J6 (decide (a0.want_ = 0)) (Xu a0 t11 t17 (decide (t11.1 = [112, 101, 114, 115, 111, 110]))) (J6 (decide (a0.want_ = 3)) (Xu a0 t11 t17 (decide (t11.1 = [112, 101, 114, 115, 111, 110]))) (Xu a0 t11 t17 false)))
noncomputable def Uf (a0 : Tc) (a1 : (List UInt8)) : Option (Bool × Tc) :=
 Jq (Jam a1 [32]) fun t11 =>
 Jq (U2 a1 [32]) fun t16 =>
 Jq (Qd t16 1 t16.length) fun t17 =>
 J6 (decide (a0.want_ = 0)) (Yk a0 t11 t17 (decide (t11.1 = [102, 97, 99, 101]))) (Yk a0 t11 t17 false)
noncomputable def Jaz (x7 : Int) (m : Int) (l : (List Ta)) (l_2 : (List Tb)) : Option ((List Ta) × (List Tb) × Int × Int) :=
 J6 (decide (m = 1)) (Jq (gI (x7 + 1)) fun t50 =>
 some (([] : List Ta), ([] : List Tb), t50, 8)) (J6 (decide (m = 2)) (Jq (gI (x7 + 1)) fun t50_2 =>
 some (([] : List Ta), ([] : List Tb), t50_2, 8)) (Jq (Qj l l_2) fun t59 =>
 J6 (decide (t59 ≠ 0)) (some (([] : List Ta), ([] : List Tb), 0, t59)) (some (l, l_2, 0, 0))))
noncomputable def Xa (next2 : (((List UInt8) × Int × Int × (List Ta) × (List Tb)) → Option ((List Ta) × (List Tb) × Int × Int))) (x0_2 : (List UInt8)) (x7_3 : Int) (m_3 : Int) (l_5 : (List Ta)) (l_6 : (List Tb)) : Option ((List Ta) × (List Tb) × Int × Int) :=
 J6 (decide (x0_2 ≠ [])) (Jq (Jam x0_2 [10]) fun t21 =>
 Jq (gI (x7_3 + 1)) fun t26 =>
 J6 (!t21.2.2) (some (([] : List Ta), ([] : List Tb), t26, 8)) (Jq (Uf (⟨l_5, l_6, m_3⟩ : Tc) t21.1) fun t32 =>
 J6 (!t32.1) (some (([] : List Ta), ([] : List Tb), t26, 8)) (next2 (t21.2.1, t26, t32.2.want_, t32.2.l_, t32.2.people_)))) (Jaz x7_3 m_3 l_5 l_6)
noncomputable def Jec (a0 : (List UInt8)) : Option ((List Ta) × (List Tb) × Int × Int) :=
 J6 (decide (1000000 < (a0.length : Int))) (some (([] : List Ta), ([] : List Tb), 0, 4)) (Zp (fun next2 s => Xa next2 s.1 s.2.1 s.2.2.1 s.2.2.2.1 s.2.2.2.2) (a0, 0, 0, ([] : List Ta), ([] : List Tb)))
noncomputable def Wf (a0 : (List UInt8)) (a1 : (List UInt8)) : Option ((List (List UInt8))) :=
 Jq (Vt a0 a1 (a1.length : Int) (-1)) fun t9 =>
 some t9
noncomputable def Q8 (a0 : (List UInt8)) (a1 : (List UInt8)) : Option (Bool) :=
 J6 (decide ((a1.length : Int) ≤ (a0.length : Int))) (Jq (gI ((a0.length : Int) - (a1.length : Int))) fun t16 =>
 Jq (Qd a0 t16 a0.length) fun t17 =>
 some (decide (t17 = a1))) (some false)
noncomputable def Xn (a0 : (List UInt8)) (a1 : (List UInt8)) : Option ((List UInt8) × Bool) :=
 Jq (Q8 a0 a1) fun t8 =>
 J6 (!t8) (some (a0, false)) (Jq (gI ((a0.length : Int) - (a1.length : Int))) fun t16 =>
 Jq (Qd a0 0 t16) fun t17 =>
 some (t17, true))
noncomputable def Xf (a0 : (List UInt8)) (a1 : (List UInt8)) : Option ((List UInt8) × Bool) :=
 Jq (Xn a0 a1) fun t8 =>
 some (t8.1, t8.2)
noncomputable def Jco (a0 : (List UInt8)) : Option (Int × Bool) :=
 Jq (Je5 a0) fun t39 =>
 some (t39, true)
noncomputable def Jac (a0 : (List UInt8)) (a1 : Int) (x8 : (List UInt8)) : Option (Int × Bool) :=
 J6 (decide (x8 = [])) (some (0, false)) (J6 (decide (a1 < (x8.length : Int))) (some (0, false)) (Jq (Ue x8 [48, 49, 50, 51, 52, 53, 54, 55, 56, 57]) fun t25 =>
 J6 (decide (t25 ≠ [])) (some (0, false)) (Jq (Uw x8 0) fun t30 =>
 J6 (decide (t30 = 48)) (J6 (decide (a0 ≠ [48])) (some (0, false)) (Jco a0)) (Jco a0))))
noncomputable def Jcu (a0 : (List UInt8)) (a1 : Int) (a2 : Bool) : Option (Int × Bool) :=
 J6 a2 (Jq (Zx a0 [45]) fun t14 =>
 Jac a0 a1 t14) (Jac a0 a1 a0)
noncomputable def Ys (x13_2 : Int) (l_2 : (List Int)) (next1 : ((Int × (List Int)) → Option ((List Int) × Bool))) (x9 : Int) (x10 : Bool) : Option ((List Int) × Bool) :=
 J6 (!x10) (some (([] : List Int), false)) (Jq (Ja4 8 l_2 ([x9] : List Int)) fun l33 =>
 Jq (gI (x13_2 + 1)) fun t34 =>
 next1 (t34, l33))
noncomputable def Vq (a0 : (List (List UInt8))) (a1 : Bool) (next1 : ((Int × (List Int)) → Option ((List Int) × Bool))) (x13_2 : Int) (l_2 : (List Int)) : Option ((List Int) × Bool) :=
 J6 (decide (x13_2 < (a0.length : Int))) (Jq (Qk a0 x13_2) fun t16 =>
 J6 a1 (Jq (Jcu t16 7 (decide (2 ≤ x13_2))) fun t25 =>
 Ys x13_2 l_2 next1 t25.1 t25.2) (Jq (Jcu t16 7 false) fun t25_2 =>
 Ys x13_2 l_2 next1 t25_2.1 t25_2.2)) (some (l_2, true))
noncomputable def Wp (a0 : (List (List UInt8))) (a1 : Bool) : Option ((List Int) × Bool) :=
 Zp (fun next1 s => Vq a0 a1 next1 s.1 s.2) (0, ([] : List Int))
noncomputable def Uu (l_2 : (List Ta)) (l_3 : (List Tb)) (x5 : Int) : Option ((List Ta) × (List Tb) × Int × Int) :=
 J6 (decide (x5 ≠ 0)) (some (([] : List Ta), ([] : List Tb), 0, x5)) (some (l_2, l_3, 0, 0))
noncomputable def U4 (l : (List (List UInt8))) (x7 : Int) (l_2 : (List Ta)) (l_3 : (List Tb)) : Option ((List Ta) × (List Tb) × Int × Int) :=
 J6 (decide (0 < x7)) (Jq (gI ((l.length : Int) + 1)) fun t176 =>
 some (([] : List Ta), ([] : List Tb), t176, 8)) (Jq (Ud l_2) fun t178 =>
 J6 (decide (t178 = 0)) (Jq (Wo l_2 l_3) fun t183 =>
 Uu l_2 l_3 t183) (Uu l_2 l_3 t178))
noncomputable def Xd (next4 : ((Int × Int × Int × (List Tb) × (List Ta)) → Option ((List Ta) × (List Tb) × Int × Int))) (x7_4 : Int) (x8 : Int) (x13 : Bool) (x38_3 : Int) (x39_3 : Int) (l_8 : (List Tb)) (l_9 : (List Ta)) : Option ((List Ta) × (List Tb) × Int × Int) :=
 J6 (!x13) (Jq (gI (x8 + 1)) fun t170 =>
 some (([] : List Ta), ([] : List Tb), t170, 8)) (Jq (gI (x39_3 + 1)) fun t171 =>
 next4 (x7_4, x38_3, t171, l_8, l_9))
noncomputable def Wn (x7_3 : Int) (x38_2 : Int) (x39_2 : Int) (l_7 : (List Ta)) (next4 : ((Int × Int × Int × (List Tb) × (List Ta)) → Option ((List Ta) × (List Tb) × Int × Int))) (x13_2 : Bool) (l_10 : (List Tb)) : Option ((List Ta) × (List Tb) × Int × Int) :=
 Jq (gI (x7_3 + 1)) fun t96 =>
 Jq (gRem t96 3) fun t97 =>
 Xd next4 t97 x39_2 x13_2 x38_2 x39_2 l_10 l_7
noncomputable def Ur (x7_3 : Int) (x38_2 : Int) (x39_2 : Int) (l_6 : (List Tb)) (l_7 : (List Ta)) (next4 : ((Int × Int × Int × (List Tb) × (List Ta)) → Option ((List Ta) × (List Tb) × Int × Int))) (t58 : ((List Int) × Bool)) (x13_2 : Bool) (x79 : Bool) : Option ((List Ta) × (List Tb) × Int × Int) :=
 J6 x79 (Jq (gI ((l_6.length : Int) - 1)) fun t83 =>
 Jq (Qk l_6 t83) fun t85 =>
 Jq (gSet l_6 t83 (⟨t85.Id, t85.Name, t58.1, t85.Nots⟩ : Tb)) fun l2 =>
 Wn x7_3 x38_2 x39_2 l_7 next4 x13_2 l2) (J6 x13_2 (Jq (gI ((l_6.length : Int) - 1)) fun t91 =>
 Jq (Qk l_6 t91) fun t93 =>
 Jq (gSet l_6 t91 (⟨t93.Id, t93.Name, t93.Likes, t58.1⟩ : Tb)) fun l2_2 =>
 Wn x7_3 x38_2 x39_2 l_7 next4 x13_2 l2_2) (Wn x7_3 x38_2 x39_2 l_7 next4 x13_2 l_6))
noncomputable def X1 (x7_3 : Int) (x38_2 : Int) (x39_2 : Int) (l_6 : (List Tb)) (l_7 : (List Ta)) (next4 : ((Int × Int × Int × (List Tb) × (List Ta)) → Option ((List Ta) × (List Tb) × Int × Int))) (t58 : ((List Int) × Bool)) (x13_2 : Bool) : Option ((List Ta) × (List Tb) × Int × Int) :=
 J6 x13_2 (Ur x7_3 x38_2 x39_2 l_6 l_7 next4 t58 x13_2 (decide (x7_3 = 1))) (Ur x7_3 x38_2 x39_2 l_6 l_7 next4 t58 x13_2 false)
noncomputable def Xz (x7_3 : Int) (x38_2 : Int) (x39_2 : Int) (l_6 : (List Tb)) (l_7 : (List Ta)) (next4 : ((Int × Int × Int × (List Tb) × (List Ta)) → Option ((List Ta) × (List Tb) × Int × Int))) (t111 : ((List Int) × Bool)) (x13_3 : Bool) : Option ((List Ta) × (List Tb) × Int × Int) :=
 J6 x13_3 (Jq (Qk t111.1 0) fun t126 =>
 Jq (Qk t111.1 1) fun t129 =>
 Jq (Qd t111.1 2 t111.1.length) fun t132 =>
 Jq (gIf (12 ≤ t132.length)) fun u133 =>
 Jq (Ja4 112 l_7 ([(⟨t126, t129, (W0 t132)⟩ : Ta)] : List Ta)) fun l137 =>
 Xd next4 x7_3 x39_2 x13_3 x38_2 x39_2 l_6 l137) (Xd next4 x7_3 x39_2 x13_3 x38_2 x39_2 l_6 l_7)
noncomputable def W4 (x38_2 : Int) (x39_2 : Int) (l_6 : (List Tb)) (l_7 : (List Ta)) (next4 : ((Int × Int × Int × (List Tb) × (List Ta)) → Option ((List Ta) × (List Tb) × Int × Int))) (t50 : ((List (List UInt8)))) (t152 : (Int × Bool)) (x13_4 : Bool) : Option ((List Ta) × (List Tb) × Int × Int) :=
 Jq (Qd t50 2 t50.length) fun t162 =>
 Jq (gJoin t162 [32]) fun t163 =>
 Jq (Ja4 72 l_6 ([(⟨t152.1, t163, ([] : (List Int)), ([] : (List Int))⟩ : Tb)] : List Tb)) fun l166 =>
 Xd next4 1 x39_2 x13_4 x38_2 x39_2 l166 l_7
noncomputable def Zj (x7_3 : Int) (x38_2 : Int) (x39_2 : Int) (l_6 : (List Tb)) (l_7 : (List Ta)) (next4 : ((Int × Int × Int × (List Tb) × (List Ta)) → Option ((List Ta) × (List Tb) × Int × Int))) (t46 : ((List UInt8) × Bool)) (t50 : ((List (List UInt8)))) (x98 : Bool) : Option ((List Ta) × (List Tb) × Int × Int) :=
 J6 x98 (Jq (Qd t50 1 t50.length) fun t110 =>
 Jq (Wp t110 true) fun t111 =>
 J6 t46.2 (J6 t111.2 (Xz x7_3 x38_2 x39_2 l_6 l_7 next4 t111 (decide ((t111.1.length : Int) = 14))) (Xz x7_3 x38_2 x39_2 l_6 l_7 next4 t111 false)) (Xz x7_3 x38_2 x39_2 l_6 l_7 next4 t111 false)) (Jq (Qk t50 0) fun t140 =>
 J6 (decide (t140 = [112, 101, 114, 115, 111, 110])) (J6 (decide (3 ≤ (t50.length : Int))) (Jq (Qk t50 1) fun t150 =>
 Jq (Jcu t150 7 false) fun t152 =>
 J6 t46.2 (W4 x38_2 x39_2 l_6 l_7 next4 t50 t152 t152.2) (W4 x38_2 x39_2 l_6 l_7 next4 t50 t152 false)) (Xd next4 x7_3 x39_2 false x38_2 x39_2 l_6 l_7)) (Xd next4 x7_3 x39_2 false x38_2 x39_2 l_6 l_7))
noncomputable def Q3 (l : (List (List UInt8))) (next4 : ((Int × Int × Int × (List Tb) × (List Ta)) → Option ((List Ta) × (List Tb) × Int × Int))) (x7_3 : Int) (x38_2 : Int) (x39_2 : Int) (l_6 : (List Tb)) (l_7 : (List Ta)) : Option ((List Ta) × (List Tb) × Int × Int) :=
 J6 (decide (x39_2 < x38_2)) (Jq (Qk l x39_2) fun t42 =>
 Jq (Xf t42 [10]) fun t46 =>
 Jq (U2 t46.1 [32]) fun t50 =>
 J6 (decide (0 < x7_3)) (Jq (Qd t50 1 t50.length) fun t57 =>
 Jq (Wp t57 false) fun t58 =>
 J6 t46.2 (J6 t58.2 (Jq (Qk t50 0) fun t67 =>
 Jq (Qk ([[], [108, 105, 107, 101, 115], [110, 111, 116, 115]] : List (List UInt8)) x7_3) fun t71 =>
 X1 x7_3 x38_2 x39_2 l_6 l_7 next4 t58 (decide (t67 = t71))) (X1 x7_3 x38_2 x39_2 l_6 l_7 next4 t58 false)) (X1 x7_3 x38_2 x39_2 l_6 l_7 next4 t58 false)) (Jq (Qk t50 0) fun t100 =>
 J6 (decide (t100 = [102, 97, 99, 101])) (Zj x7_3 x38_2 x39_2 l_6 l_7 next4 t46 t50 (decide ((l_6.length : Int) = 0))) (Zj x7_3 x38_2 x39_2 l_6 l_7 next4 t46 t50 false))) (U4 l x7_3 l_7 l_6)
noncomputable def Uz (l : (List (List UInt8))) : Option ((List Ta) × (List Tb) × Int × Int) :=
 Zp (fun next4 s => Q3 l next4 s.1 s.2.1 s.2.2.1 s.2.2.2.1 s.2.2.2.2) (0, (l.length : Int), 0, ([] : List Tb), ([] : List Ta))
noncomputable def Jdk (a0 : (List UInt8)) : Option ((List Ta) × (List Tb) × Int × Int) :=
 J6 (decide (1000000 < (a0.length : Int))) (some (([] : List Ta), ([] : List Tb), 0, 4)) (Jq (Wf a0 [10]) fun t24 =>
 Jq (gI ((t24.length : Int) - 1)) fun t28 =>
 Jq (Qk t24 t28) fun t29 =>
 J6 (decide (t29 = [])) (Jq (gI ((t24.length : Int) - 1)) fun t35 =>
 Jq (Qd t24 0 t35) fun t36 =>
 Uz t36) (Uz t24))
noncomputable def Q9 (a0 : (List Ta)) (a1 : (List Ta)) (next1 : ((Int) → Option (Bool))) (x13_2 : Int) : Option (Bool) :=
 J6 (decide (x13_2 < (a0.length : Int))) (Jq (Qk a0 x13_2) fun t18 =>
 Jq (Qk a1 x13_2) fun t22 =>
 J6 (!(Vx t18 t22)) (some false) (Jq (gI (x13_2 + 1)) fun t25 =>
 next1 t25)) (some true)
noncomputable def Yf (a0 : (List Ta)) (a1 : (List Ta)) : Option (Bool) :=
 J6 (decide ((a0.length : Int) ≠ (a1.length : Int))) (some false) (Zp (fun next1 s => Q9 a0 a1 next1 s) 0)
noncomputable def Jx (a0 : (List Tb)) (a1 : (List Tb)) (a2 : (Tb → Tb → Option (Bool))) (next1 : ((Int) → Option (Bool))) (x17_2 : Int) : Option (Bool) :=
 J6 (decide (x17_2 < (a0.length : Int))) (Jq (Qk a0 x17_2) fun t20 =>
 Jq (Qk a1 x17_2) fun t24 =>
 Jq (a2 t20 t24) fun t29 =>
 J6 (!t29) (some false) (Jq (gI (x17_2 + 1)) fun t31 =>
 next1 t31)) (some true)
noncomputable def Qx (a0 : (List Tb)) (a1 : (List Tb)) (a2 : (Tb → Tb → Option (Bool))) : Option (Bool) :=
 J6 (decide ((a0.length : Int) ≠ (a1.length : Int))) (some false) (Zp (fun next1 s => Jx a0 a1 a2 next1 s) 0)
noncomputable def Y3 (a0 : (List Int)) (a1 : (List Int)) (next1 : ((Int) → Option (Bool))) (x13_2 : Int) : Option (Bool) :=
 J6 (decide (x13_2 < (a0.length : Int))) (Jq (Qk a0 x13_2) fun t18 =>
 Jq (Qk a1 x13_2) fun t22 =>
 J6 (decide (t18 ≠ t22)) (some false) (Jq (gI (x13_2 + 1)) fun t25 =>
 next1 t25)) (some true)
noncomputable def Vu (a0 : (List Int)) (a1 : (List Int)) : Option (Bool) :=
 J6 (decide ((a0.length : Int) ≠ (a1.length : Int))) (some false) (Zp (fun next1 s => Y3 a0 a1 next1 s) 0)
noncomputable def Jav (a0 : Tb) (a1 : Tb) : Option (Bool) :=
 J6 (decide (a0.Id = a1.Id)) (J6 (decide (a0.Name = a1.Name)) (Jq (Vu a0.Likes a1.Likes) fun t22 =>
 J6 t22 (Jq (Vu a0.Nots a1.Nots) fun t29 =>
 some t29) (some false)) (some false)) (some false)
noncomputable def Jdg (a0 : (List Tb)) (a1 : (List Tb)) : Option (Bool) :=
 Jq (Qx a0 a1 Jav) fun t7 =>
 some t7
noncomputable def Yn (a2 : (List UInt8)) (x8 : (List UInt8)) (next3 : ((Int) → Option (Bool))) (x52_2 : Int) : Option (Bool) :=
 J6 (decide (x52_2 < 2)) (Jq (Qk ([a2, x8] : List (List UInt8)) x52_2) fun t54 =>
 Jq (Jec t54) fun t58 =>
 Jq (Jdk t54) fun t65 =>
 J6 (decide (t58.2.2.1 ≠ t65.2.2.1)) (some false) (J6 (decide (t58.2.2.2 ≠ t65.2.2.2)) (some false) (Jq (Yf t58.1 t65.1) fun t81 =>
 J6 (!t81) (some false) (Jq (Jdg t58.2.1 t65.2.1) fun t87 =>
 J6 (!t87) (some false) (Jq (gI (x52_2 + 1)) fun t90 =>
 next3 t90))))) (some true)
noncomputable def Zm (a0 : (List Ta)) (a1 : (List Tb)) (a2 : (List UInt8)) (x7_2 : Int) (x8 : (List UInt8)) : Option (Bool) :=
 Jq (Jbf a0 a1) fun t39 =>
 Jq (U6 t39.1 t39.2 x8 x7_2) fun t46 =>
 J6 (!t46) (some false) (Zp (fun next3 s => Yn a2 x8 next3 s) 0)
noncomputable def Vv (a0 : (List Ta)) (a1 : (List Tb)) (a2 : (List UInt8)) (x7 : Int) : Option (Bool) :=
 J6 (decide (x7 = 0)) (Jq (Jde a0 a1) fun t32 =>
 J6 (decide (1000000 < (t32.length : Int))) (Zm a0 a1 a2 4 t32) (Zm a0 a1 a2 x7 t32)) (Zm a0 a1 a2 x7 [])
noncomputable def Jbh (a0 : (List Ta)) (a1 : (List Tb)) (a2 : (List UInt8)) : Option (Bool) :=
 Jq (Ud a0) fun t22 =>
 J6 (decide (t22 = 0)) (Jq (Wo a0 a1) fun t27 =>
 Vv a0 a1 a2 t27) (Vv a0 a1 a2 t22)
end Go.M

/-
 DERIVED: THE SHELF's CONTRACTS AT THIS DUMP, IN PLAIN WORDS (tools/lay-plain.mjs out of 'YtlkaenijicgfcaaGreatDoorSrt.lean', which tools/lay-shelf.mjs wrote): THE SAME DECLARATIONS UNDER THE SAME NAMES: 'import', 'namespace', 'open', 'def', 'theorem' AND NOTHING ELSE: no command of the shelf's: FOR A HAND-IN. Each laying: the table of numbers ('.._ren') and one theorem, a field a fact of the dump's own or the kernel's comparison; each contract: ONE APPLICATION.
-/
namespace Go.Proofs
open Go.Shelf
def Tryz.lays156_ren : Go.Shelf.Ren := ⟨fun | 156 => 46 | 165 => 128 | 166 => 31 | 169 => 33 | 240 => 110 | 241 => 230 | 276 => 202 | 277 => 288 | n => n, fun | 31 => 31 | 9 => 9 | 3 => 3 | 4 => 4 | 0 => 0 | 20 => 20 | 72 => 84 | 76 => 87 | 70 => 81 | 37 => 82 | 75 => 86 | 127 => 167 | 164 => 224 | 5 => 5 | 80 => 91 | n => n, fun | n => n⟩
theorem Tryz.lays156 : Go.Proofs.Lays.n156 Tryz.prog Tryz.lays156_ren := {
 mixed := by kernel_rfl
 f156 := Tryz.func46.trans (congrArg some (by kernel_rfl))
 f165 := Tryz.func128.trans (congrArg some (by kernel_rfl))
 f166 := Tryz.func31.trans (congrArg some (by kernel_rfl))
 f169 := Tryz.func33.trans (congrArg some (by kernel_rfl))
 f240 := Tryz.func110.trans (congrArg some (by kernel_rfl))
 f241 := Tryz.func230.trans (congrArg some (by kernel_rfl))
 f276 := Tryz.func202.trans (congrArg some (by kernel_rfl))
 f277 := Tryz.func288.trans (congrArg some (by kernel_rfl))
 t0 := Tryz.underlying0
 a0 := Tryz.isAgg0
 z0 := Tryz.sizeOf0
 v0 := Tryz.zeroValue0
 t3 := Tryz.underlying3
 a3 := Tryz.isAgg3
 z3 := Tryz.sizeOf3
 v3 := Tryz.zeroValue3
 t4 := Tryz.underlying4
 a4 := Tryz.isAgg4
 z4 := Tryz.sizeOf4
 v4 := Tryz.zeroValue4
 t9 := Tryz.underlying9
 a9 := Tryz.isAgg9
 z9 := Tryz.sizeOf9
 v9 := Tryz.zeroValue9
 t20 := Tryz.underlying20
 a20 := Tryz.isAgg20
 z20 := Tryz.sizeOf20
 v20 := Tryz.zeroValue20
 t31 := Tryz.underlying31
 a31 := Tryz.isAgg31
 z31 := Tryz.sizeOf31
 v31 := Tryz.zeroValue31
 t37 := Tryz.underlying82
 a37 := Tryz.isAgg82
 z37 := Tryz.sizeOf82
 v37 := Tryz.zeroValue82
 t70 := Tryz.underlying81
 a70 := Tryz.isAgg81
 z70 := Tryz.sizeOf81
 v70 := Tryz.zeroValue81
 t72 := Tryz.underlying84
 a72 := Tryz.isAgg84
 z72 := Tryz.sizeOf84
 v72 := Tryz.zeroValue84
 t75 := Tryz.underlying86
 a75 := Tryz.isAgg86
 z75 := Tryz.sizeOf86
 v75 := Tryz.zeroValue86
 t76 := Tryz.underlying87
 a76 := Tryz.isAgg87
 z76 := Tryz.sizeOf87
 v76 := Tryz.zeroValue87
 t127 := Tryz.underlying167
 a127 := Tryz.isAgg167
 z127 := Tryz.sizeOf167
 v127 := Tryz.zeroValue167
 t164 := Tryz.underlying224
 a164 := Tryz.isAgg224
 z164 := Tryz.sizeOf224
 v164 := Tryz.zeroValue224 }
theorem Tryz.Builder_Extra_156 : Builder.Extra Tryz.prog Tryz.lays156_ren := {
 sizeBuilder := by kernel_rfl
 liesBuilder := by kernel_rfl
 t5 := Tryz.underlying5
 a5 := Tryz.isAgg5
 z5 := Tryz.sizeOf5
 v5 := Tryz.zeroValue5
 infoByte := by kernel_rfl
 cellsByte := by kernel_rfl
 sizeByte := by kernel_rfl
 neB5 := by decide }
def Tryz.lays172_ren : Go.Shelf.Ren := ⟨fun | 172 => 127 | 244 => 228 | 245 => 229 | 247 => 283 | 279 => 284 | 280 => 285 | 281 => 286 | 282 => 287 | 287 => 349 | 316 => 350 | 171 => 32 | 205 => 351 | 321 => 381 | 322 => 382 | 243 => 111 | 246 => 203 | 283 => 262 | 284 => 263 | 285 => 264 | 286 => 265 | 129 => 299 | 317 => 327 | 318 => 328 | 319 => 329 | 320 => 330 | 337 => 375 | 338 => 376 | n => n, fun | 9 => 9 | 3 => 3 | 75 => 86 | 76 => 87 | 4 => 4 | 5 => 5 | 167 => 276 | 37 => 82 | 0 => 0 | 85 => 277 | 2 => 2 | 168 => 279 | 53 => 261 | 175 => 323 | 46 => 248 | 210 => 326 | 127 => 167 | 145 => 355 | 143 => 353 | 21 => 21 | 171 => 260 | 173 => 264 | 212 => 309 | 51 => 291 | 20 => 20 | 213 => 310 | 232 => 364 | 233 => 365 | 80 => 91 | n => n, fun | 15 => 2 | 16 => 3 | 17 => 1 | 18 => 6 | 19 => 7 | n => n⟩
theorem Tryz.lays172 : Go.Proofs.Lays.n172 Tryz.prog Tryz.lays172_ren := {
 mixed := by kernel_rfl
 f129 := Tryz.func299.trans (congrArg some (by kernel_rfl))
 f171 := Tryz.func32.trans (congrArg some (by kernel_rfl))
 f172 := Tryz.func127.trans (congrArg some (by kernel_rfl))
 f205 := Tryz.func351.trans (congrArg some (by kernel_rfl))
 f243 := Tryz.func111.trans (congrArg some (by kernel_rfl))
 f244 := Tryz.func228.trans (congrArg some (by kernel_rfl))
 f245 := Tryz.func229.trans (congrArg some (by kernel_rfl))
 f246 := Tryz.func203.trans (congrArg some (by kernel_rfl))
 f247 := Tryz.func283.trans (congrArg some (by kernel_rfl))
 f279 := Tryz.func284.trans (congrArg some (by kernel_rfl))
 f280 := Tryz.func285.trans (congrArg some (by kernel_rfl))
 f281 := Tryz.func286.trans (congrArg some (by kernel_rfl))
 f282 := Tryz.func287.trans (congrArg some (by kernel_rfl))
 f283 := Tryz.func262.trans (congrArg some (by kernel_rfl))
 f284 := Tryz.func263.trans (congrArg some (by kernel_rfl))
 f285 := Tryz.func264.trans (congrArg some (by kernel_rfl))
 f286 := Tryz.func265.trans (congrArg some (by kernel_rfl))
 f287 := Tryz.func349.trans (congrArg some (by kernel_rfl))
 f316 := Tryz.func350.trans (congrArg some (by kernel_rfl))
 f317 := Tryz.func327.trans (congrArg some (by kernel_rfl))
 f318 := Tryz.func328.trans (congrArg some (by kernel_rfl))
 f319 := Tryz.func329.trans (congrArg some (by kernel_rfl))
 f320 := Tryz.func330.trans (congrArg some (by kernel_rfl))
 f321 := Tryz.func381.trans (congrArg some (by kernel_rfl))
 f322 := Tryz.func382.trans (congrArg some (by kernel_rfl))
 f337 := Tryz.func375.trans (congrArg some (by kernel_rfl))
 f338 := Tryz.func376.trans (congrArg some (by kernel_rfl))
 t0 := Tryz.underlying0
 a0 := Tryz.isAgg0
 z0 := Tryz.sizeOf0
 v0 := Tryz.zeroValue0
 t2 := Tryz.underlying2
 a2 := Tryz.isAgg2
 z2 := Tryz.sizeOf2
 v2 := Tryz.zeroValue2
 t3 := Tryz.underlying3
 a3 := Tryz.isAgg3
 z3 := Tryz.sizeOf3
 v3 := Tryz.zeroValue3
 t4 := Tryz.underlying4
 a4 := Tryz.isAgg4
 z4 := Tryz.sizeOf4
 v4 := Tryz.zeroValue4
 t5 := Tryz.underlying5
 a5 := Tryz.isAgg5
 z5 := Tryz.sizeOf5
 v5 := Tryz.zeroValue5
 t9 := Tryz.underlying9
 a9 := Tryz.isAgg9
 z9 := Tryz.sizeOf9
 v9 := Tryz.zeroValue9
 t20 := Tryz.underlying20
 a20 := Tryz.isAgg20
 z20 := Tryz.sizeOf20
 v20 := Tryz.zeroValue20
 t21 := Tryz.underlying21
 a21 := Tryz.isAgg21
 z21 := Tryz.sizeOf21
 v21 := Tryz.zeroValue21
 t37 := Tryz.underlying82
 a37 := Tryz.isAgg82
 z37 := Tryz.sizeOf82
 v37 := Tryz.zeroValue82
 t46 := Tryz.underlying248
 a46 := Tryz.isAgg248
 z46 := Tryz.sizeOf248
 v46 := Tryz.zeroValue248
 t51 := Tryz.underlying291
 a51 := Tryz.isAgg291
 z51 := Tryz.sizeOf291
 v51 := Tryz.zeroValue291
 t53 := Tryz.underlying261
 a53 := Tryz.isAgg261
 z53 := Tryz.sizeOf261
 v53 := Tryz.zeroValue261
 t75 := Tryz.underlying86
 a75 := Tryz.isAgg86
 z75 := Tryz.sizeOf86
 v75 := Tryz.zeroValue86
 t76 := Tryz.underlying87
 a76 := Tryz.isAgg87
 z76 := Tryz.sizeOf87
 v76 := Tryz.zeroValue87
 t85 := Tryz.underlying277
 a85 := Tryz.isAgg277
 z85 := Tryz.sizeOf277
 v85 := Tryz.zeroValue277
 t127 := Tryz.underlying167
 a127 := Tryz.isAgg167
 z127 := Tryz.sizeOf167
 v127 := Tryz.zeroValue167
 t143 := Tryz.underlying353
 a143 := Tryz.isAgg353
 z143 := Tryz.sizeOf353
 v143 := Tryz.zeroValue353
 t145 := Tryz.underlying355
 a145 := Tryz.isAgg355
 z145 := Tryz.sizeOf355
 v145 := Tryz.zeroValue355
 t167 := Tryz.underlying276
 a167 := Tryz.isAgg276
 z167 := Tryz.sizeOf276
 v167 := Tryz.zeroValue276
 t168 := Tryz.underlying279
 a168 := Tryz.isAgg279
 z168 := Tryz.sizeOf279
 v168 := Tryz.zeroValue279
 t171 := Tryz.underlying260
 a171 := Tryz.isAgg260
 z171 := Tryz.sizeOf260
 v171 := Tryz.zeroValue260
 t173 := Tryz.underlying264
 a173 := Tryz.isAgg264
 z173 := Tryz.sizeOf264
 v173 := Tryz.zeroValue264
 t175 := Tryz.underlying323
 a175 := Tryz.isAgg323
 z175 := Tryz.sizeOf323
 v175 := Tryz.zeroValue323
 t210 := Tryz.underlying326
 a210 := Tryz.isAgg326
 z210 := Tryz.sizeOf326
 v210 := Tryz.zeroValue326
 t212 := Tryz.underlying309
 a212 := Tryz.isAgg309
 z212 := Tryz.sizeOf309
 v212 := Tryz.zeroValue309
 t213 := Tryz.underlying310
 a213 := Tryz.isAgg310
 z213 := Tryz.sizeOf310
 t232 := Tryz.underlying364
 a232 := Tryz.isAgg364
 z232 := Tryz.sizeOf364
 v232 := Tryz.zeroValue364
 t233 := Tryz.underlying365
 a233 := Tryz.isAgg365
 z233 := Tryz.sizeOf365
 v233 := Tryz.zeroValue365
 g15 := by kernel_rfl
 g16 := by kernel_rfl
 g17 := by kernel_rfl
 g18 := by kernel_rfl
 g19 := by kernel_rfl }
def Tryz.laysM171_ren : Go.Shelf.Ren := ⟨fun | 171 => 32 | 243 => 111 | 246 => 203 | 283 => 262 | 284 => 263 | 285 => 264 | 286 => 265 | 129 => 299 | 317 => 327 | 318 => 328 | 319 => 329 | 320 => 330 | 337 => 375 | 338 => 376 | n => n, fun | 3 => 3 | 9 => 9 | 2 => 2 | 4 => 4 | 171 => 260 | 0 => 0 | 53 => 261 | 37 => 82 | 5 => 5 | 173 => 264 | 212 => 309 | 51 => 291 | 20 => 20 | 213 => 310 | 46 => 248 | 232 => 364 | 233 => 365 | n => n, fun | 17 => 1 | 18 => 6 | 19 => 7 | n => n⟩
theorem Tryz.laysM171 : Go.Proofs.LaysM.n171 Tryz.prog Tryz.laysM171_ren := {
 mixed := by kernel_rfl
 f129 := Tryz.func299.trans (congrArg some (by kernel_rfl))
 f171 := Tryz.func32.trans (congrArg some (by kernel_rfl))
 f243 := Tryz.func111.trans (congrArg some (by kernel_rfl))
 f246 := Tryz.func203.trans (congrArg some (by kernel_rfl))
 f283 := Tryz.func262.trans (congrArg some (by kernel_rfl))
 f284 := Tryz.func263.trans (congrArg some (by kernel_rfl))
 f285 := Tryz.func264.trans (congrArg some (by kernel_rfl))
 f286 := Tryz.func265.trans (congrArg some (by kernel_rfl))
 f317 := Tryz.func327.trans (congrArg some (by kernel_rfl))
 f318 := Tryz.func328.trans (congrArg some (by kernel_rfl))
 f319 := Tryz.func329.trans (congrArg some (by kernel_rfl))
 f320 := Tryz.func330.trans (congrArg some (by kernel_rfl))
 f337 := Tryz.func375.trans (congrArg some (by kernel_rfl))
 f338 := Tryz.func376.trans (congrArg some (by kernel_rfl))
 t0 := Tryz.underlying0
 a0 := Tryz.isAgg0
 z0 := Tryz.sizeOf0
 v0 := Tryz.zeroValue0
 t2 := Tryz.underlying2
 a2 := Tryz.isAgg2
 z2 := Tryz.sizeOf2
 v2 := Tryz.zeroValue2
 t3 := Tryz.underlying3
 a3 := Tryz.isAgg3
 z3 := Tryz.sizeOf3
 v3 := Tryz.zeroValue3
 t4 := Tryz.underlying4
 a4 := Tryz.isAgg4
 z4 := Tryz.sizeOf4
 v4 := Tryz.zeroValue4
 t5 := Tryz.underlying5
 a5 := Tryz.isAgg5
 z5 := Tryz.sizeOf5
 v5 := Tryz.zeroValue5
 t9 := Tryz.underlying9
 a9 := Tryz.isAgg9
 z9 := Tryz.sizeOf9
 v9 := Tryz.zeroValue9
 t20 := Tryz.underlying20
 a20 := Tryz.isAgg20
 z20 := Tryz.sizeOf20
 v20 := Tryz.zeroValue20
 t37 := Tryz.underlying82
 a37 := Tryz.isAgg82
 z37 := Tryz.sizeOf82
 v37 := Tryz.zeroValue82
 t46 := Tryz.underlying248
 a46 := Tryz.isAgg248
 z46 := Tryz.sizeOf248
 v46 := Tryz.zeroValue248
 t51 := Tryz.underlying291
 a51 := Tryz.isAgg291
 z51 := Tryz.sizeOf291
 v51 := Tryz.zeroValue291
 t53 := Tryz.underlying261
 a53 := Tryz.isAgg261
 z53 := Tryz.sizeOf261
 v53 := Tryz.zeroValue261
 t171 := Tryz.underlying260
 a171 := Tryz.isAgg260
 z171 := Tryz.sizeOf260
 v171 := Tryz.zeroValue260
 t173 := Tryz.underlying264
 a173 := Tryz.isAgg264
 z173 := Tryz.sizeOf264
 v173 := Tryz.zeroValue264
 t212 := Tryz.underlying309
 a212 := Tryz.isAgg309
 z212 := Tryz.sizeOf309
 v212 := Tryz.zeroValue309
 t213 := Tryz.underlying310
 a213 := Tryz.isAgg310
 z213 := Tryz.sizeOf310
 t232 := Tryz.underlying364
 a232 := Tryz.isAgg364
 z232 := Tryz.sizeOf364
 v232 := Tryz.zeroValue364
 t233 := Tryz.underlying365
 a233 := Tryz.isAgg365
 z233 := Tryz.sizeOf365
 v233 := Tryz.zeroValue365
 g17 := by kernel_rfl
 g18 := by kernel_rfl
 g19 := by kernel_rfl
 i0 := by kernel_rfl
 i2 := by kernel_rfl
 i3 := by kernel_rfl
 i4 := by kernel_rfl
 i5 := by kernel_rfl
 i9 := by kernel_rfl
 i20 := by kernel_rfl
 i37 := by kernel_rfl
 i46 := by kernel_rfl
 i51 := by kernel_rfl
 i53 := by kernel_rfl
 i171 := by kernel_rfl
 i173 := by kernel_rfl
 i212 := by kernel_rfl
 i232 := by kernel_rfl
 i233 := by kernel_rfl
 m17 := by kernel_rfl
 m18 := by kernel_rfl
 m19 := by kernel_rfl }
def Tryz.lays189_ren : Go.Shelf.Ren := ⟨fun | 189 => 212 | 125 => 237 | 257 => 271 | 128 => 298 | 129 => 299 | 294 => 336 | 295 => 337 | 296 => 338 | 297 => 339 | 298 => 340 | 299 => 341 | 216 => 334 | 300 => 342 | 301 => 343 | 328 => 377 | 329 => 353 | 330 => 354 | 331 => 378 | 332 => 379 | 215 => 244 | 343 => 391 | n => n, fun | 28 => 75 | 3 => 3 | 46 => 248 | 0 => 0 | 51 => 291 | 53 => 261 | 4 => 4 | 183 => 285 | 182 => 284 | 131 => 106 | 5 => 5 | 9 => 9 | 218 => 328 | 222 => 332 | 228 => 356 | 229 => 357 | n => n, fun | n => n⟩
theorem Tryz.lays189 : Go.Proofs.Lays.n189 Tryz.prog Tryz.lays189_ren := {
 mixed := by kernel_rfl
 f125 := Tryz.func237.trans (congrArg some (by kernel_rfl))
 f128 := Tryz.func298.trans (congrArg some (by kernel_rfl))
 f129 := Tryz.func299.trans (congrArg some (by kernel_rfl))
 f189 := Tryz.func212.trans (congrArg some (by kernel_rfl))
 f215 := Tryz.func244.trans (congrArg some (by kernel_rfl))
 f216 := Tryz.func334.trans (congrArg some (by kernel_rfl))
 f257 := Tryz.func271.trans (congrArg some (by kernel_rfl))
 f294 := Tryz.func336.trans (congrArg some (by kernel_rfl))
 f295 := Tryz.func337.trans (congrArg some (by kernel_rfl))
 f296 := Tryz.func338.trans (congrArg some (by kernel_rfl))
 f297 := Tryz.func339.trans (congrArg some (by kernel_rfl))
 f298 := Tryz.func340.trans (congrArg some (by kernel_rfl))
 f299 := Tryz.func341.trans (congrArg some (by kernel_rfl))
 f300 := Tryz.func342.trans (congrArg some (by kernel_rfl))
 f301 := Tryz.func343.trans (congrArg some (by kernel_rfl))
 f328 := Tryz.func377.trans (congrArg some (by kernel_rfl))
 f329 := Tryz.func353.trans (congrArg some (by kernel_rfl))
 f330 := Tryz.func354.trans (congrArg some (by kernel_rfl))
 f331 := Tryz.func378.trans (congrArg some (by kernel_rfl))
 f332 := Tryz.func379.trans (congrArg some (by kernel_rfl))
 f343 := Tryz.func391.trans (congrArg some (by kernel_rfl))
 t0 := Tryz.underlying0
 a0 := Tryz.isAgg0
 z0 := Tryz.sizeOf0
 v0 := Tryz.zeroValue0
 t3 := Tryz.underlying3
 a3 := Tryz.isAgg3
 z3 := Tryz.sizeOf3
 v3 := Tryz.zeroValue3
 t4 := Tryz.underlying4
 a4 := Tryz.isAgg4
 z4 := Tryz.sizeOf4
 v4 := Tryz.zeroValue4
 t5 := Tryz.underlying5
 a5 := Tryz.isAgg5
 z5 := Tryz.sizeOf5
 v5 := Tryz.zeroValue5
 t9 := Tryz.underlying9
 a9 := Tryz.isAgg9
 z9 := Tryz.sizeOf9
 v9 := Tryz.zeroValue9
 t28 := Tryz.underlying75
 a28 := Tryz.isAgg75
 z28 := Tryz.sizeOf75
 v28 := Tryz.zeroValue75
 t46 := Tryz.underlying248
 a46 := Tryz.isAgg248
 z46 := Tryz.sizeOf248
 v46 := Tryz.zeroValue248
 t51 := Tryz.underlying291
 a51 := Tryz.isAgg291
 z51 := Tryz.sizeOf291
 v51 := Tryz.zeroValue291
 t53 := Tryz.underlying261
 a53 := Tryz.isAgg261
 z53 := Tryz.sizeOf261
 v53 := Tryz.zeroValue261
 t131 := Tryz.underlying106
 a131 := Tryz.isAgg106
 z131 := Tryz.sizeOf106
 v131 := Tryz.zeroValue106
 t182 := Tryz.underlying284
 a182 := Tryz.isAgg284
 z182 := Tryz.sizeOf284
 v182 := Tryz.zeroValue284
 t183 := Tryz.underlying285
 a183 := Tryz.isAgg285
 z183 := Tryz.sizeOf285
 v183 := Tryz.zeroValue285
 t218 := Tryz.underlying328
 a218 := Tryz.isAgg328
 z218 := Tryz.sizeOf328
 v218 := Tryz.zeroValue328
 t222 := Tryz.underlying332
 a222 := Tryz.isAgg332
 z222 := Tryz.sizeOf332
 v222 := Tryz.zeroValue332
 t228 := Tryz.underlying356
 a228 := Tryz.isAgg356
 z228 := Tryz.sizeOf356
 v228 := Tryz.zeroValue356
 t229 := Tryz.underlying357
 a229 := Tryz.isAgg357
 z229 := Tryz.sizeOf357
 v229 := Tryz.zeroValue357 }
def Tryz.laysNm220_ren : Go.Shelf.Ren := ⟨fun | 20 => 213 | n => n, fun | 22 => 75 | 3 => 3 | 4 => 4 | 0 => 0 | n => n, fun | n => n⟩
theorem Tryz.laysNm220 : Go.Proofs.Lays2.n20 Tryz.prog Tryz.laysNm220_ren := {
 mixed := by kernel_rfl
 f20 := Tryz.func213.trans (congrArg some (by kernel_rfl))
 t0 := Tryz.underlying0
 a0 := Tryz.isAgg0
 z0 := Tryz.sizeOf0
 v0 := Tryz.zeroValue0
 t3 := Tryz.underlying3
 a3 := Tryz.isAgg3
 z3 := Tryz.sizeOf3
 v3 := Tryz.zeroValue3
 t4 := Tryz.underlying4
 a4 := Tryz.isAgg4
 z4 := Tryz.sizeOf4
 v4 := Tryz.zeroValue4
 t22 := Tryz.underlying75
 a22 := Tryz.isAgg75
 z22 := Tryz.sizeOf75
 v22 := Tryz.zeroValue75
 i3 := by kernel_rfl }
end Go.Proofs

/- A small rule library of our own over the kit's walk calculus: it proves that Go code meets a contract, one operation at a time, over a functional frame and a list of owned memory chunks. Conditions: none; every rule is proved here from the kit's own laws. -/
namespace Go.Vc
open Go
abbrev Q6 := Nat → Value
def upd (e : Q6) (d : Nat) (v : Value) : Q6 := fun t => bif Nat.beq t d then v else e t
def ev (e : Q6) : Operand → Value
 | .tmp t => e t
 | .const v => v
 | .global g => .pointer (some ⟨g, 0, none⟩)
 | .func f => .func (.func f) #[] #[]
structure Sim (n : Nat) (a : Act) (e : Q6) : Prop where
 defers : a.defers = []
 size : a.tmps.size = n
 val : ∀ t, a.tmps.getD t undef = e t
theorem Sim.ev {n : Nat} {a : Act} {e : Q6} (h : Sim n a e) : a.eval = ev e := by
 funext o
 cases o <;> simp [Act.eval, Vc.ev, h.val]
theorem beq_eq (a b : Nat) : Nat.beq a b = decide (a = b) := by
 rw [Bool.eq_iff_iff]; simp [Nat.beq_eq]
theorem upd_same (e : Q6) (d : Nat) (v : Value) : upd e d v d = v := by simp [upd]
theorem upd_ne (e : Q6) (d t : Nat) (v : Value) (h : t ≠ d) : upd e d v t = e t := by simp [upd, beq_eq, h]
theorem Sim.put {n : Nat} {a : Act} {e : Q6} (h : Sim n a e) {d : Nat} (hd : Nat.blt d n = true) (v : Value) : Sim n (a.put (some d) v) (upd e d v) := by
 have hd' : d < n := by simpa using hd
 refine ⟨h.defers, by simp [Act.put, h.size], fun t => ?_⟩
 have ht := h.val t
 by_cases htd : t = d
 ·subst htd
  rw [upd_same]
  simp [Act.put, Array.getD_eq_getD_getElem?, h.size, hd']
 ·rw [upd_ne _ _ _ _ htd, ← ht]
  simp only [Act.put, Array.getD_eq_getD_getElem?]
  rw [Array.getElem?_setIfInBounds]
  have : ¬ d = t := fun e => htd e.symm
  simp [this]
def lget : List Value → Q6
 | [], _ => undef
 | v :: _, 0 => v
 | _ :: l, t + 1 => lget l t
theorem lget_eq (l : List Value) (t : Nat) : lget l t = l.getD t undef := by
 induction l generalizing t with
 | nil => simp [lget]
 | cons v l ih => cases t <;> simp [lget, ih]
def Grow (w w' : World) : Prop := Go.RowKit.Below w.heap.size w w'
theorem Grow.refl (w : World) : Grow w w := Go.RowKit.Below.refl _ _
theorem Grow.trans {a b c : World} (h : Grow a b) (k : Grow b c) : Grow a c := Go.RowKit.Below.trans h (Go.RowKit.Below.mono k h.size)
structure Chunk where
 P : (Nat → Prop) → World → Prop
 loc : ∀ S w w', (∀ b, S b → w'.heap[b]? = w.heap[b]?) → P S w → P S w'
structure Cx where
 w0 : World
 S0 : Nat → Prop
def Cx.own (cx : Cx) (b : Nat) : Prop := cx.w0.heap.size ≤ b ∨ cx.S0 b
structure Fr (cx : Cx) (w : World) : Prop where
 os : w.os = cx.w0.os
 tape : w.tape = cx.w0.tape
 output : w.output = cx.w0.output
 size : cx.w0.heap.size ≤ w.heap.size
 block : ∀ b, ¬ cx.own b → w.heap[b]? = cx.w0.heap[b]?
structure Sat (cx : Cx) (w : World) (L : List Chunk) : Prop where
 out : ∃ fp : Nat → Nat → Prop, (∀ (i : Nat) (c : Chunk), L[i]? = some c → c.P (fp i) w) ∧ (∀ i b, fp i b → i < L.length ∧ b < w.heap.size ∧ cx.own b) ∧ (∀ i j b, fp i b → fp j b → i = j)
theorem Fr.refl (w : World) (S0 : Nat → Prop) : Fr ⟨w, S0⟩ w := ⟨rfl, rfl, rfl, Nat.le_refl _, fun _ _ => rfl⟩
theorem Fr.grow {cx : Cx} {w w' : World} (h : Fr cx w) (g : Grow w w') : Fr cx w' := by
 refine ⟨g.os.trans h.os, g.tape.trans h.tape, g.output.trans h.output, Nat.le_trans h.size g.size, fun b hb => ?_⟩
 have hlt : b < w.heap.size := by
  have : ¬ cx.w0.heap.size ≤ b := fun hh => hb (.inl hh)
  have := h.size
  omega
 rw [g.block b hlt, h.block b hb]
theorem Sat.grow {cx : Cx} {w w' : World} {L : List Chunk} (h : Sat cx w L) (g : Grow w w') : Sat cx w' L := by
 obtain ⟨fp, h1, h2, h3⟩ := h.out
 refine ⟨fp, fun i c hc => c.loc _ _ _ (fun b hb => g.block b (h2 i b hb).2.1) (h1 i c hc), fun i b hb => ?_, h3⟩
 obtain ⟨a1, a2, a3⟩ := h2 i b hb
 exact ⟨a1, Nat.lt_of_lt_of_le a2 g.size, a3⟩
theorem Sat.nil (cx : Cx) (w : World) : Sat cx w [] := ⟨fun _ _ => False, by simp, fun _ _ h => h.elim, fun _ _ _ h => h.elim⟩
theorem Sat.snoc {cx : Cx} {w w' : World} {L : List Chunk} {c : Chunk} {S : Nat → Prop} (h : Sat cx w L) (hf : Fr cx w) (g : Grow w w') (hc : c.P S w')
  (hS : ∀ b, S b → w.heap.size ≤ b ∧ b < w'.heap.size) : Sat cx w' (L ++ [c]) := by
 obtain ⟨fp, k1, h2, h3⟩ := h.out
 have h1 : ∀ (i : Nat) (c : Chunk), L[i]? = some c → c.P (fp i) w' := fun i c hc => c.loc _ _ _ (fun b hb => g.block b (h2 i b hb).2.1) (k1 i c hc)
 refine ⟨fun i b => (i < L.length ∧ fp i b) ∨ (i = L.length ∧ S b), ?_, ?_, ?_⟩
 ·intro i d hd
  by_cases hi : i < L.length
  ·have : (fun b => (i < L.length ∧ fp i b) ∨ (i = L.length ∧ S b)) = fp i := by
    funext b; apply propext; constructor
    ·rintro (⟨_, h⟩ | ⟨h, _⟩)
     ·exact h
     ·omega
    ·exact fun h => .inl ⟨hi, h⟩
   show d.P (fun b => (i < L.length ∧ fp i b) ∨ (i = L.length ∧ S b)) w'
   rw [this]
   exact h1 i d (by simpa [List.getElem?_append_left hi] using hd)
  ·have hle : L.length ≤ i := by omega
   rw [List.getElem?_append_right hle] at hd
   have hi0 : i - L.length = 0 := by
    by_cases h0 : i - L.length = 0
    ·exact h0
    ·obtain ⟨k, hk⟩ : ∃ k, i - L.length = k + 1 := ⟨i - L.length - 1, by omega⟩
     rw [hk] at hd; simp at hd
   have hil : i = L.length := by omega
   rw [hi0] at hd
   simp at hd
   subst hd
   have : (fun b => (i < L.length ∧ fp i b) ∨ (i = L.length ∧ S b)) = S := by
    funext b; apply propext; constructor
    ·rintro (⟨h, _⟩ | ⟨_, h⟩)
     ·omega
     ·exact h
    ·exact fun h => .inr ⟨hil, h⟩
   show c.P (fun b => (i < L.length ∧ fp i b) ∨ (i = L.length ∧ S b)) w'
   rw [this]
   exact hc
 ·rintro i b (⟨hi, hb⟩ | ⟨hi, hb⟩)
  ·obtain ⟨a1, a2, a3⟩ := h2 i b hb
   exact ⟨by simp; omega, Nat.lt_of_lt_of_le a2 g.size, a3⟩
  ·obtain ⟨a1, a2⟩ := hS b hb
   exact ⟨by simp; omega, a2, .inl (Nat.le_trans hf.size a1)⟩
 ·rintro i j b (⟨hi, hb⟩ | ⟨hi, hb⟩) (⟨hj, hb'⟩ | ⟨hj, hb'⟩)
  ·exact h3 i j b hb hb'
  ·have := (h2 i b hb).2.1; have := (hS b hb').1; omega
  ·have := (h2 j b hb').2.1; have := (hS b hb).1; omega
  ·omega
theorem Sat.set {cx : Cx} {w w' : World} {L : List Chunk} {i : Nat} {c c' : Chunk} (h : Sat cx w L) (hf : Fr cx w) (hi : L[i]? = some c)
  (hs : w.heap.size ≤ w'.heap.size)
  (hc : ∀ S : Nat → Prop, c.P S w → (∀ b, S b → b < w.heap.size ∧ cx.own b) → ∃ S' : Nat → Prop, c'.P S' w' ∧ (∀ b, S' b → b < w'.heap.size ∧ (S b ∨ w.heap.size ≤ b)) ∧ ∀ b, b < w.heap.size → ¬ S b → w'.heap[b]? = w.heap[b]?) :
  Sat cx w' (L.set i c') := by
 obtain ⟨fp, h1, h2, h3⟩ := h.out
 obtain ⟨S', k1, k2, k3⟩ := hc (fp i) (h1 i c hi) (fun b hb => (h2 i b hb).2)
 have hil : i < L.length := by
  rcases Nat.lt_or_ge i L.length with h | h
  ·exact h
  ·simp [List.getElem?_eq_none h] at hi
 refine ⟨fun j b => if j = i then S' b else fp j b, ?_, ?_, ?_⟩
 ·intro j d hd
  by_cases hji : j = i
  ·subst hji
   simp [List.getElem?_set_self hil] at hd
   subst hd
   simpa using k1
  ·rw [List.getElem?_set_ne (fun e => hji e.symm)] at hd
   simp only [hji, if_false]
   exact d.loc _ _ _ (fun b hb => k3 b (h2 j b hb).2.1 (fun hib => hji (h3 j i b hb hib))) (h1 j d hd)
 ·intro j b hb
  by_cases hji : j = i
  ·simp only [hji, if_true] at hb
   refine ⟨by simp [hji, hil], (k2 b hb).1, ?_⟩
   rcases (k2 b hb).2 with h | h
   ·exact (h2 i b h).2.2
   ·exact .inl (Nat.le_trans hf.size h)
  ·simp only [hji, if_false] at hb
   obtain ⟨a1, a2, a3⟩ := h2 j b hb
   exact ⟨by simpa using a1, by omega, a3⟩
 ·intro j k b hj hk
  by_cases hji : j = i <;> by_cases hki : k = i <;> simp only [hji, hki, if_true, if_false] at hj hk
  ·omega
  ·obtain ⟨_, a2, _⟩ := h2 k b hk
   rcases (k2 b hj).2 with h | h
   ·exact absurd (h3 k i b hk h) hki
   ·omega
  ·obtain ⟨_, a2, _⟩ := h2 j b hj
   rcases (k2 b hk).2 with h | h
   ·exact absurd (h3 j i b hj h) hji
   ·omega
  ·exact h3 j k b hj hk
theorem Sat.select {cx : Cx} {w : World} {L L' : List Chunk} (h : Sat cx w L) (sel : List Nat) (hnd : sel.Nodup) (hs : sel.map (fun i => L[i]?) = L'.map some) : Sat cx w L' := by
 obtain ⟨fp, h1, h2, h3⟩ := h.out
 have hlen : sel.length = L'.length := by simpa using congrArg List.length hs
 refine ⟨fun k b => ∃ i, sel[k]? = some i ∧ fp i b, ?_, ?_, ?_⟩
 ·intro k c hc
  have hk : (sel.map (fun i => L[i]?))[k]? = (L'.map some)[k]? := by rw [hs]
  simp only [List.getElem?_map, hc, Option.map_some] at hk
  cases hsk : sel[k]? with
  | none => simp [hsk] at hk
  | some i =>
   simp [hsk] at hk
   have : (fun b => ∃ j, some i = some j ∧ fp j b) = fp i := by
    funext b; apply propext; constructor
    ·rintro ⟨j, hj, hb⟩; cases hj; exact hb
    ·exact fun hb => ⟨i, rfl, hb⟩
   show c.P (fun b => ∃ j, sel[k]? = some j ∧ fp j b) w
   rw [hsk, this]
   exact h1 i c hk
 ·rintro k b ⟨i, hi, hb⟩
  have hkl : k < sel.length := by
   rcases Nat.lt_or_ge k sel.length with h | h
   ·exact h
   ·simp [List.getElem?_eq_none h] at hi
  exact ⟨by omega, (h2 i b hb).2⟩
 ·rintro k k' b ⟨i, hi, hb⟩ ⟨i', hi', hb'⟩
  have := h3 i i' b hb hb'
  subst this
  have hkl : k < sel.length := by
   rcases Nat.lt_or_ge k sel.length with h | h
   ·exact h
   ·simp [List.getElem?_eq_none h] at hi
  have hkl' : k' < sel.length := by
   rcases Nat.lt_or_ge k' sel.length with h | h
   ·exact h
   ·simp [List.getElem?_eq_none h] at hi'
  have hp := List.pairwise_iff_getElem.1 hnd
  rw [List.getElem?_eq_getElem hkl] at hi
  rw [List.getElem?_eq_getElem hkl'] at hi'
  rcases Nat.lt_trichotomy k k' with h | h | h
  ·exact absurd ((Option.some.inj hi).trans (Option.some.inj hi').symm) (hp k k' hkl hkl' h)
  ·exact h
  ·exact absurd ((Option.some.inj hi').trans (Option.some.inj hi).symm) (hp k' k hkl' hkl h)
structure At (cx : Cx) (K : Q6 → World → Prop) (e : Q6) (L : List Chunk) : Prop where
 out : ∀ w, Fr cx w → Sat cx w L → K e w
abbrev Va := Exit → Q6 → World → Prop
def lift (n : Nat) (Q : Va) : Exit → Act → World → Prop := fun x a w => ∃ e, Sim n a e ∧ Q x e w
structure WC (P : Program) (n : Nat) (c : Code) (Q : Va) (e : Q6) (w : World) : Prop where
 out : ∀ a, Sim n a e → c.wp P (lift n Q) a w
structure WL (P : Program) (n : Nat) (ops : Array Oper) (Q : Va) (l : List Oper) (e : Q6) (w : World) : Prop where
 out : ∀ a, Sim n a e → wpList P ops (lift n Q) l a w
def ThenQ (K : Q6 → World → Prop) (Q : Va) : Va
 | .normal, e, w => K e w
 | .exit i, e, w => Q (.exit i) e w
 | .goto l, e, w => Q (.goto l) e w
 | .ret, e, w => Q .ret e w
 | .panic c, e, w => Q (.panic c) e w
 | .outgrown, e, w => Q .outgrown e w
def BlockQ (id : Nat) (Q : Va) : Va
 | .normal, e, w => Q .normal e w
 | .exit i, e, w => bif Nat.beq i id then Q .normal e w else Q (.exit i) e w
 | .goto l, e, w => Q (.goto l) e w
 | .ret, e, w => Q .ret e w
 | .panic c, e, w => Q (.panic c) e w
 | .outgrown, e, w => Q .outgrown e w
section rules
variable {P : Program} {n : Nat} {cx : Cx} {Q : Va} {e : Q6} {L : List Chunk}
theorem Jb {x y : Code} (h : At cx (WC P n x (ThenQ (WC P n y Q) Q)) e L) : At cx (WC P n (.seq x y) Q) e L :=
 ⟨fun w hF hS => ⟨fun a ha => wp_seq (Code.wp_mono (fun x' a' w' hq => by
  obtain ⟨e', hs, hq⟩ := hq
  cases x' <;> first | exact ⟨e', hs, hq⟩ | exact WC.out hq a' hs) ((h.out w hF hS).out a ha))⟩⟩
theorem Jj (h : At cx (Q .normal) e L) : At cx (WC P n .skip Q) e L :=
 ⟨fun w hF hS => ⟨fun _ ha => wp_skip ⟨e, ha, h.out w hF hS⟩⟩⟩
theorem Ji (h : At cx (Q .ret) e L) : At cx (WC P n .ret Q) e L :=
 ⟨fun w hF hS => ⟨fun _ ha => wp_ret ⟨e, ha, h.out w hF hS⟩⟩⟩
theorem Qg {id : Nat} (h : At cx (Q (.exit id)) e L) : At cx (WC P n (.exit id) Q) e L :=
 ⟨fun w hF hS => ⟨fun _ ha => wp_exit ⟨e, ha, h.out w hF hS⟩⟩⟩
theorem Jl {id : Nat} {c : Code} (h : At cx (WC P n c (BlockQ id Q)) e L) : At cx (WC P n (.block id c) Q) e L :=
 ⟨fun w hF hS => ⟨fun a ha => wp_block (Code.wp_mono (fun x' a' w' hq => by
  obtain ⟨e', hs, hq⟩ := hq
  cases x' with
  | exit i =>
   simp only [Exit.inBlock, lift]
   by_cases hi : i = id
   ·simp only [hi, if_true]
    have hb : Nat.beq id id = true := by simp
    have hq' : (bif Nat.beq i id then Q .normal e' w' else Q (.exit i) e' w') := hq
    rw [hi, hb] at hq'
    exact ⟨e', hs, hq'⟩
   ·have hb : Nat.beq i id = false := by simp [beq_eq, hi]
    have hq' : (bif Nat.beq i id then Q .normal e' w' else Q (.exit i) e' w') := hq
    rw [hb] at hq'
    simp only [hi, if_false]
    exact ⟨e', hs, hq'⟩
  | normal => exact ⟨e', hs, hq⟩
  | goto l => exact ⟨e', hs, hq⟩
  | ret => exact ⟨e', hs, hq⟩
  | panic c => exact ⟨e', hs, hq⟩
  | outgrown => exact ⟨e', hs, hq⟩) ((h.out w hF hS).out a ha))⟩⟩
theorem c_if {c : Operand} {x y : Code} {b : Bool} (hc : ev e c = .bool b) (ht : b = true → At cx (WC P n x Q) e L) (hf : b = false → At cx (WC P n y Q) e L) :
  At cx (WC P n (.cond c x y) Q) e L :=
 ⟨fun w hF hS => ⟨fun a ha => wp_cond_split (by rw [ha.ev]; exact hc) (fun hb => ((ht hb).out w hF hS).out a ha) (fun hb => ((hf hb).out w hF hS).out a ha)⟩⟩
theorem Zv {c : Operand} {x y : Code} (hc : ev e c = .bool true) (ht : At cx (WC P n x Q) e L) : At cx (WC P n (.cond c x y) Q) e L :=
 c_if hc (fun _ => ht) (fun h => by cases h)
theorem Zf {c : Operand} {x y : Code} (hc : ev e c = .bool false) (hf : At cx (WC P n y Q) e L) : At cx (WC P n (.cond c x y) Q) e L :=
 c_if hc (fun h => by cases h) (fun _ => hf)
theorem Ja {id : Nat} {l : List Oper} (h : At cx (WL P n l.toArray Q l) e L) : At cx (WC P n (.region id l.toArray false) Q) e L :=
 ⟨fun w hF hS => ⟨fun a ha => wp_region_lit ((h.out w hF hS).out a ha)⟩⟩
theorem Jc {ops : Array Oper} (h : At cx (Q .normal) e L) : At cx (WL P n ops Q []) e L :=
 ⟨fun w hF hS => ⟨fun _ ha => wpList_nil ⟨e, ha, h.out w hF hS⟩⟩⟩
end rules
def Jey (P : Program) (fn : Func) (R : Value → World → Prop) : Va
 | .normal, e, w | .ret, e, w => ∀ tmps : Array Value, (∀ t, tmps.getD t undef = e t) → ∃ v, (results fn tmps).run P w = .ok v w ∧ R v w
 | _, _, _ => False
def Does (P : Program) (f : FuncId) (args : Array Value) (w : World) (R : Value → World → Prop) : Prop :=
 Calls P f args w fun en w' => ∃ v, en = .returned v ∧ R v w'
theorem Does.mono {P : Program} {f : FuncId} {args : Array Value} {w : World} {R R' : Value → World → Prop} (h : Does P f args w R) (hr : ∀ v w', R v w' → R' v w') : Does P f args w R' :=
 Calls.mono h fun _ _ ⟨v, he, hv⟩ => ⟨v, he, hr _ _ hv⟩
theorem getD_args (args : List Value) (k t : Nat) : (args.toArray ++ Array.replicate k undef).getD t undef = lget args t := by
 rw [lget_eq, Array.getD_eq_getD_getElem?, Array.getElem?_append]
 split
 ·simp [List.getD_eq_getElem?_getD]
 ·rename_i h
  have h' : args.length ≤ t := by simpa using h
  rw [List.getD_eq_getElem?_getD, List.getElem?_eq_none h']
  rw [Array.getElem?_replicate]
  split <;> rfl
theorem enter {P : Program} {f : FuncId} {fn : Func} {c : Code} {args : List Value} {n : Nat} {w : World} {R : Value → World → Prop} (hf : P.funcs[f]? = some fn) (hb : fn.body = some c) (hn : fn.ntmps = n) (hle : Nat.ble args.length n = true)
  (S0 : Nat → Prop) (L : List Chunk) (hL : Sat ⟨w, S0⟩ w L) (h : At ⟨w, S0⟩ (WC P n c (Jey P fn R)) (lget args) L) : Does P f args.toArray w R := by
 refine calls_of_wp hf hb ?_
 refine Code.wp_mono ?_ ((h.out w (Fr.refl w S0) hL).out _ ⟨rfl, ?_, ?_⟩)
 ·rintro x a w' ⟨e, hs, hq⟩
  cases x with
  | normal =>
   obtain ⟨v, hr, hR⟩ := hq a.tmps hs.val
   exact ⟨hs.defers, v, hr, v, rfl, hR⟩
  | ret =>
   obtain ⟨v, hr, hR⟩ := hq a.tmps hs.val
   exact ⟨hs.defers, v, hr, v, rfl, hR⟩
  | exit i => exact hq.elim
  | goto i => exact hq.elim
  | panic i => exact hq.elim
  | outgrown => exact hq.elim
 ·have hle' : args.length ≤ n := by simpa using hle
  simp only [hn, Array.size_append, List.size_toArray, Array.size_replicate]
  omega
 ·intro t
  exact getD_args args _ t
end Go.Vc

/- The rules for single operations of a region, over the functional frame. Conditions: none. -/
namespace Go.Vc
open Go
def want (ops : Array Oper) (o : Oper) (e : Q6) : Bool :=
 match o.guard with
 | none => true
 | some (j, b) => match (ops[j]?).bind (·.dst) with
  | none => false
  | some d => match e d, b with
   | .bool true, b => b
   | .bool false, true => false
   | .bool false, false => true
   | _, _ => false
theorem Jdp {n : Nat} {a : Act} {e : Q6} (h : Sim n a e) (ops : Array Oper) (o : Oper) : Region.wanted o (yielded ops a.tmps) = want ops o e := by
 unfold Region.wanted want
 cases hg : o.guard with
 | none => rfl
 | some jb =>
  obtain ⟨j, b⟩ := jb
  simp only [yielded]
  cases hd : (ops[j]?).bind (·.dst) with
  | none => rfl
  | some d =>
   simp only [Option.bind_some]
   have hv := h.val d
   rw [Array.getD_eq_getD_getElem?] at hv
   cases ht : a.tmps[d]? with
   | none =>
    rw [ht] at hv
    simp only [Option.getD_none] at hv
    rw [← hv]
    rfl
   | some v =>
    rw [ht] at hv
    simp only [Option.getD_some] at hv
    rw [← hv]
    cases v <;> first | rfl | (rename_i x; cases x <;> cases b <;> rfl)
section rules
variable {P : Program} {n : Nat} {cx : Cx} {Q : Va} {e : Q6} {L : List Chunk} {ops : Array Oper} {rest : List Oper}
theorem l_passed {o : Oper} {d : Nat} (hw : want ops o e = false) (hd : o.dst = some d) (hn : Nat.blt d n = true) (k : At cx (WL P n ops Q rest) (upd e d undef) L) : At cx (WL P n ops Q (o :: rest)) e L :=
 ⟨fun w hF hS => ⟨fun a ha => by
  unfold wpList
  rw [Jdp ha, hw]
  rw [hd]
  exact (k.out w hF hS).out _ (ha.put hn undef)⟩⟩
theorem Jcq {o : Oper} {d : Nat} (hw : want ops o e = true) (hd : o.dst = some d) (hn : Nat.blt d n = true)
  (h : ∀ w, Fr cx w → Sat cx w L → ∃ v w', (execOp (ev e) o).run P w = .ok (.value v) w' ∧ WL P n ops Q rest (upd e d v) w') : At cx (WL P n ops Q (o :: rest)) e L :=
 ⟨fun w hF hS => ⟨fun a ha => by
  obtain ⟨v, w', hr, hk⟩ := h w hF hS
  unfold wpList
  rw [Jdp ha, hw, if_pos rfl]
  refine .inl ?_
  unfold Oper.wp
  rw [ha.ev, hr]
  show wpList P ops (lift n Q) rest (a.put o.dst v) w'
  rw [hd]
  exact hk.out _ (ha.put hn v)⟩⟩
theorem l_acts {o : Oper} (hw : want ops o e = true) (hd : o.dst = none)
  (h : ∀ w, Fr cx w → Sat cx w L → ∃ w', (execOp (ev e) o).run P w = .ok .skip w' ∧ WL P n ops Q rest e w') : At cx (WL P n ops Q (o :: rest)) e L :=
 ⟨fun w hF hS => ⟨fun a ha => by
  obtain ⟨w', hr, hk⟩ := h w hF hS
  unfold wpList
  rw [Jdp ha, hw, if_pos rfl]
  refine .inl ?_
  unfold Oper.wp
  rw [ha.ev, hr]
  show wpList P ops (lift n Q) rest (a.put o.dst undef) w'
  rw [hd]
  exact hk.out _ ha⟩⟩
theorem l_calls {o : Oper} {d : Nat} {f : FuncId} {args : Array Value} (hw : want ops o e = true) (hd : o.dst = some d) (hn : Nat.blt d n = true)
  (hr : ∀ w, (execOp (ev e) o).run P w = .ok (.enter f args) w)
  (h : ∀ w, Fr cx w → Sat cx w L → Does P f args w fun v w' => WL P n ops Q rest (upd e d v) w') : At cx (WL P n ops Q (o :: rest)) e L :=
 ⟨fun w hF hS => ⟨fun a ha => by
  unfold wpList
  rw [Jdp ha, hw, if_pos rfl]
  refine .inl ?_
  unfold Oper.wp
  rw [ha.ev, hr]
  show Calls P f args w _
  refine Calls.mono (h w hF hS) ?_
  rintro en w' ⟨v, rfl, hk⟩
  show wpList P ops (lift n Q) rest (a.put o.dst v) w'
  rw [hd]
  exact hk.out _ (ha.put hn v)⟩⟩
theorem Jeo {o : Oper} {d : Nat} {v : Value} (hw : want ops o e = true) (hd : o.dst = some d) (hn : Nat.blt d n = true)
  (hr : ∀ w, (execOp (ev e) o).run P w = .ok (.value v) w) (k : At cx (WL P n ops Q rest) (upd e d v) L) : At cx (WL P n ops Q (o :: rest)) e L :=
 Jcq hw hd hn fun w hF hS => ⟨v, w, hr w, k.out w hF hS⟩
section ops
variable {d : Option Nat} {ty : TypeId} {pos : String} {af : Array Edge} {g : Option (Nat × Bool)}
theorem r_move {X : Operand} {v : Value} (hx : ev e X = v) (w : World) :
  (execOp (ev e) ⟨d, .move X, ty, pos, af, g⟩).run P w = .ok (.value v) w :=
 by subst hx; rfl
theorem Xs {X : Operand} {v : Value} (hx : ev e X = v) (w : World) :
  (execOp (ev e) ⟨d, .assign X, ty, pos, af, g⟩).run P w = .ok (.value v) w :=
 by subst hx; rfl
theorem Jdo {c A B : Operand} {v : Value} (hc : ev e c = .bool true) (hx : ev e A = v) (w : World) :
  (execOp (ev e) ⟨d, .pick c A B, ty, pos, af, g⟩).run P w = .ok (.value v) w :=
 by subst hx; simp [execOp, hc, asBool]
theorem Jcv {c A B : Operand} {v : Value} (hc : ev e c = .bool false) (hx : ev e B = v) (w : World) :
  (execOp (ev e) ⟨d, .pick c A B, ty, pos, af, g⟩).run P w = .ok (.value v) w :=
 by subst hx; simp [execOp, hc, asBool]
theorem split {K : Q6 → World → Prop} {b : Bool} {d : Nat} (ht : b = true → At cx K (upd e d (.bool true)) L) (hf : b = false → At cx K (upd e d (.bool false)) L) : At cx K (upd e d (.bool b)) L := by
 cases b
 ·exact hf rfl
 ·exact ht rfl
theorem V8 {X : Operand} {b : Bool} {t : TypeId} (hx : ev e X = .bool b) (w : World) :
  (execOp (ev e) ⟨d, .unOp .not t X, ty, pos, af, g⟩).run P w = .ok (.value (.bool (!b))) w :=
 by simp [execOp, hx, Op.unary]
section bin
variable {X Y : Operand} {x y : Int} {t t' : TypeId} {kd : IntKind}
theorem Jhg (w : World) (op : BinOp) : (eqGuard op t X Y (.int kd x) (.int kd y)).run P w = .ok () w := by
 unfold eqGuard; cases op <;> rfl
theorem Jeg {op : BinOp} {v : Value} (hx : ev e X = .int kd x) (hy : ev e Y = .int kd y)
  (hr : ∀ w, (binOp op t (.int kd x) (.int kd y)).run P w = .ok v w) (w : World) :
  (execOp (ev e) ⟨d, .binOp op t X Y t', ty, pos, af, g⟩).run P w = .ok (.value v) w :=
 by simp [execOp, hx, hy, Jhg, hr]
theorem r_add (hx : ev e X = .int .i64 x) (hy : ev e Y = .int .i64 y)
  (hr : -9223372036854775808 ≤ x + y ∧ x + y ≤ 9223372036854775807) (w : World) :
  (execOp (ev e) ⟨d, .binOp .add t X Y t', ty, pos, af, g⟩).run P w = .ok (.value (.int .i64 (x + y))) w :=
 Jeg hx hy (fun w => by simp [binOp, Op.intArith, IntWalk.i64_in _ hr]) w
theorem r_sub (hx : ev e X = .int .i64 x) (hy : ev e Y = .int .i64 y)
  (hr : -9223372036854775808 ≤ x - y ∧ x - y ≤ 9223372036854775807) (w : World) :
  (execOp (ev e) ⟨d, .binOp .sub t X Y t', ty, pos, af, g⟩).run P w = .ok (.value (.int .i64 (x - y))) w :=
 Jeg hx hy (fun w => by simp [binOp, Op.intArith, IntWalk.i64_in _ hr]) w
theorem r_rem (hx : ev e X = .int kd x) (hy : ev e Y = .int kd y)
  (hy0 : y ≠ 0) (w : World) :
  (execOp (ev e) ⟨d, .binOp .rem t X Y t', ty, pos, af, g⟩).run P w = .ok (.value (.int kd (x.tmod y))) w :=
 Jeg hx hy (fun w => by simp [binOp, Op.intDiv, hy0]) w
theorem Qv (hx : ev e X = .int kd x) (hy : ev e Y = .int kd y) (w : World) :
  (execOp (ev e) ⟨d, .binOp .lss t X Y t', ty, pos, af, g⟩).run P w = .ok (.value (.bool (decide (x < y)))) w :=
 Jeg hx hy (fun w => by simp [binOp, Op.intCmp]) w
theorem Jek (hx : ev e X = .int kd x) (hy : ev e Y = .int kd y) (w : World) :
  (execOp (ev e) ⟨d, .binOp .leq t X Y t', ty, pos, af, g⟩).run P w = .ok (.value (.bool (decide (x ≤ y)))) w :=
 Jeg hx hy (fun w => by simp [binOp, Op.intCmp]) w
theorem Zi (hx : ev e X = .int kd x) (hy : ev e Y = .int kd y) (w : World) :
  (execOp (ev e) ⟨d, .binOp .gtr t X Y t', ty, pos, af, g⟩).run P w = .ok (.value (.bool (decide (y < x)))) w :=
 Jeg hx hy (fun w => by simp [binOp, Op.intCmp]) w
theorem Jcg (hx : ev e X = .int kd x) (hy : ev e Y = .int kd y) (w : World) :
  (execOp (ev e) ⟨d, .binOp .geq t X Y t', ty, pos, af, g⟩).run P w = .ok (.value (.bool (decide (y ≤ x)))) w :=
 Jeg hx hy (fun w => by simp [binOp, Op.intCmp]) w
theorem Y4 (hx : ev e X = .int kd x) (hy : ev e Y = .int kd y) (w : World) :
  (execOp (ev e) ⟨d, .binOp .eql t X Y t', ty, pos, af, g⟩).run P w = .ok (.value (.bool (decide (x = y)))) w :=
 Jeg hx hy (fun w => by simp [binOp, Op.intCmp]; rfl) w
theorem Jaj (hx : ev e X = .int kd x) (hy : ev e Y = .int kd y) (w : World) :
  (execOp (ev e) ⟨d, .binOp .neq t X Y t', ty, pos, af, g⟩).run P w = .ok (.value (.bool (decide (x ≠ y)))) w :=
 Jeg hx hy (fun w => by simp [binOp, Op.intCmp, bne]; rfl) w
end bin
theorem Jm {X : Operand} {ix : Nat} {vs : Array Value} {v : Value} (hx : ev e X = .tuple vs) (hv : vs[ix]? = some v) (w : World) :
  (execOp (ev e) ⟨d, .extract X ix, ty, pos, af, g⟩).run P w = .ok (.value v) w :=
 by simp [execOp, hx, Instr.extract, hv]
theorem r_min {X Y : Operand} {x y : Int} {kd : IntKind} {tys : Array TypeId}
  (hx : ev e X = .int kd x) (hy : ev e Y = .int kd y) (w : World) :
  (execOp (ev e) ⟨d, .call ⟨.builtin .min, #[X, Y], tys⟩, ty, pos, af, g⟩).run P w = .ok (.value (.int kd (min x y))) w :=
 by
  have : (if y < x then y else x) = min x y := by rw [Int.min_def]; split <;> split <;> omega
  simp [execOp, resolve, invoke, builtin, hx, hy, Builtin.min_, Builtin.min2, this]
theorem r_max {X Y : Operand} {x y : Int} {kd : IntKind} {tys : Array TypeId}
  (hx : ev e X = .int kd x) (hy : ev e Y = .int kd y) (w : World) :
  (execOp (ev e) ⟨d, .call ⟨.builtin .max, #[X, Y], tys⟩, ty, pos, af, g⟩).run P w = .ok (.value (.int kd (max x y))) w :=
 by
  have : (if y > x then y else x) = max x y := by rw [Int.max_def]; split <;> split <;> omega
  simp [execOp, resolve, invoke, builtin, hx, hy, Builtin.max_, Builtin.max2]; simpa using this
theorem Je7 {t : TypeId} {parts : Array (Nat × Operand)} {fs : Array Field} {pl : Array (Nat × Nat)} {z cells : Array Value} {ps : List (Nat × Value)}
  (hz : ∀ w, (zeroValue t).run P w = .ok (.agg z) w) (hu : ∀ w, (underlying t).run P w = .ok (.struct fs) w)
  (hpl : ∀ w, (fs.mapM fun f => do pure (f.offset, ← sizeOf f.type) : Sem (Array (Nat × Nat))).run P w = .ok pl w)
    
  (hps : parts.toList.map (fun (i, x) => (i, ev e x)) = ps) (hf : Instr.fill (pl[·]?) z ps = some cells) (w : World) :
  (execOp (ev e) ⟨d, .build t parts, ty, pos, af, g⟩).run P w = .ok (.value (.agg cells)) w :=
 by
  have hz' : (Value.agg z).cells = z := rfl
  have hps' : (parts.map fun (i, x) => (i, ev e x)).toList = ps := by rw [← hps, Array.toList_map]
  simp only [execOp, Instr.build, Sem.run_bind, hz, hu, Result.andThen_ok, hpl, hps', hz', hf, Sem.run_pure]
end ops
end rules
end Go.Vc

/- The rules for memory, calls, loops and returns, over the functional frame. Conditions: none. -/
namespace Go.Vc
open Go
def Jp (b : Nat) (cs : List Value) (T : TypeId) : Chunk where
 P S w := (∀ x, S x ↔ x = b) ∧ w.heap[b]? = some (.cells cs.toArray T (0, 0))
 loc S w w' h hp := ⟨hp.1, by rw [h b ((hp.1 b).2 rfl)]; exact hp.2⟩
def rdn : List Value → Nat → Option (List Value)
 | _, 0 => some []
 | [], _ + 1 => none
 | v :: r, k + 1 => (rdn r k).map (v :: ·)
def rd : List Value → Nat → Nat → Option (List Value)
 | cs, 0, k => rdn cs k
 | [], _ + 1, k => rdn [] k
 | _ :: r, o + 1, k => rd r o k
def wrn : List Value → List Value → Option (List Value)
 | cs, [] => some cs
 | [], _ :: _ => none
 | _ :: r, v :: vs => (wrn r vs).map (v :: ·)
def wr : List Value → Nat → List Value → Option (List Value)
 | cs, 0, vs => wrn cs vs
 | [], _ + 1, [] => some []
 | [], _ + 1, _ :: _ => none
 | c :: r, o + 1, vs => (wr r o vs).map (c :: ·)
def rg : List Value → Nat → Option Value
 | [], _ => none
 | v :: _, 0 => some v
 | _ :: r, k + 1 => rg r k
theorem rg_eq : ∀ (cs : List Value) (k : Nat), rg cs k = cs[k]?
 | [], _ => by simp [rg]
 | v :: r, 0 => by simp [rg]
 | v :: r, k + 1 => by simp [rg, rg_eq r k]
theorem rdn_get {cs : List Value} : ∀ {k : Nat} {vs : List Value}, rdn cs k = some vs → vs.length = k ∧ ∀ (j : Nat) (v : Value), vs[j]? = some v → cs[j]? = some v := by
 induction cs with
 | nil => intro k vs h; cases k <;> simp [rdn] at h; subst h; exact ⟨rfl, by simp⟩
 | cons c r ih =>
  intro k vs h
  cases k with
  | zero => simp [rdn] at h; subst h; exact ⟨rfl, by simp⟩
  | succ k =>
   simp only [rdn, Option.map_eq_some_iff] at h
   obtain ⟨x, hx, rfl⟩ := h
   obtain ⟨h1, h2⟩ := ih hx
   refine ⟨by simp [h1], fun j v hv => ?_⟩
   cases j with
   | zero => simpa using hv
   | succ j => simp at hv ⊢; exact h2 j v hv
theorem rd_get {cs : List Value} {o k : Nat} {vs : List Value} (h : rd cs o k = some vs) : vs.length = k ∧ ∀ (j : Nat) (v : Value), vs[j]? = some v → cs[o + j]? = some v := by
 induction cs generalizing o with
 | nil =>
  cases o with
  | zero => simpa using rdn_get h
  | succ o =>
   obtain ⟨h1, h2⟩ := rdn_get (cs := []) (by simpa [rd] using h)
   exact ⟨h1, fun j v hv => by have := h2 j v hv; simp at this⟩
 | cons c r ih =>
  cases o with
  | zero => simpa using rdn_get h
  | succ o =>
   obtain ⟨h1, h2⟩ := ih (o := o) (by simpa [rd] using h)
   exact ⟨h1, fun j v hv => by have := h2 j v hv; rw [show o + 1 + j = (o + j) + 1 from by omega]; simpa using this⟩
theorem wrn_eq {cs vs cs' : List Value} (h : wrn cs vs = some cs') : vs.length ≤ cs.length ∧ cs' = vs ++ cs.drop vs.length := by
 induction vs generalizing cs cs' with
 | nil => cases cs <;> simp [wrn] at h <;> subst h <;> simp
 | cons v vs ih =>
  cases cs with
  | nil => simp [wrn] at h
  | cons c r =>
   simp only [wrn, Option.map_eq_some_iff] at h
   obtain ⟨x, hx, rfl⟩ := h
   obtain ⟨h1, h2⟩ := ih hx
   exact ⟨by simp; omega, by simp [h2]⟩
theorem wr_eq {cs vs cs' : List Value} {o : Nat} (h : wr cs o vs = some cs') (hne : 0 < vs.length) : o + vs.length ≤ cs.length ∧ cs' = cs.take o ++ vs ++ cs.drop (o + vs.length) := by
 induction cs generalizing o cs' with
 | nil =>
  cases o with
  | zero => obtain ⟨h1, h2⟩ := wrn_eq (cs := []) (by simpa [wr] using h); simp at h1; simp [h1] at hne
  | succ o => cases vs <;> simp [wr] at h hne
 | cons c r ih =>
  cases o with
  | zero => obtain ⟨h1, h2⟩ := wrn_eq (cs := c :: r) (by simpa [wr] using h); exact ⟨by simpa using h1, by simp [h2]⟩
  | succ o =>
   simp only [wr, Option.map_eq_some_iff] at h
   obtain ⟨x, hx, rfl⟩ := h
   obtain ⟨h1, h2⟩ := ih hx
   refine ⟨by simp; omega, ?_⟩
   rw [show o + 1 + vs.length = (o + vs.length) + 1 from by omega]
   simp [h2]
theorem Jad (w : World) (o : Obj) : Grow w (w.alloc o) := Go.RowKit.Below.alloc (Go.RowKit.Below.refl _ _) (Nat.le_refl _) o
theorem Jgv {P : Program} (t : TypeId) (v : Value) (w : World) : (newVar t v).run P w = .ok ⟨w.heap.size, 0, none⟩ (w.alloc (.cells v.cells t)) := by
 simp [newVar, newRow, newObj, Sem.run]
section rules
variable {P : Program} {n : Nat} {cx : Cx} {Q : Va} {e : Q6} {L : List Chunk} {ops : Array Oper} {rest : List Oper}
variable {d : Nat} {ty : TypeId} {pos : String} {af : Array Edge} {g : Option (Nat × Bool)}
theorem sat_new {w : World} (hF : Fr cx w) (hS : Sat cx w L) (cs : List Value) (T : TypeId) : Sat cx (w.alloc (.cells cs.toArray T)) (L ++ [Jp w.heap.size cs T]) :=
 hS.snoc hF (Jad w _) (S := fun x => x = w.heap.size) ⟨fun _ => Iff.rfl, heap_alloc_new w _⟩ (fun b hb => by subst hb; exact ⟨Nat.le_refl _, by simp⟩)
theorem Je8 {T : TypeId} {X : Operand} {x : Value} {cs : List Value} (hw : want ops ⟨some d, .box T X, ty, pos, af, g⟩ e = true) (hn : Nat.blt d n = true) (hx : ev e X = x) (hc : x.cells.toList = cs)
  (k : ∀ b, At cx (WL P n ops Q rest) (upd e d (.pointer (some ⟨b, 0, none⟩))) (L ++ [Jp b cs T])) : At cx (WL P n ops Q (⟨some d, .box T X, ty, pos, af, g⟩ :: rest)) e L :=
 Jcq hw rfl hn fun w hF hS => ⟨.pointer (some ⟨w.heap.size, 0, none⟩), w.alloc (.cells cs.toArray T), by
  subst hc
  simp [execOp, Instr.box, Jgv, hx], (k w.heap.size).out _ (hF.grow (Jad w _)) (sat_new hF hS cs T)⟩
theorem Z6 {T : TypeId} {z : Value} {cs : List Value} (hz : ∀ w, (zeroValue T).run P w = .ok z w) (hc : z.cells.toList = cs) (hw : want ops ⟨some d, .alloc T, ty, pos, af, g⟩ e = true) (hn : Nat.blt d n = true)
  (k : ∀ b, At cx (WL P n ops Q rest) (upd e d (.pointer (some ⟨b, 0, none⟩))) (L ++ [Jp b cs T])) : At cx (WL P n ops Q (⟨some d, .alloc T, ty, pos, af, g⟩ :: rest)) e L :=
 Jcq hw rfl hn fun w hF hS => ⟨.pointer (some ⟨w.heap.size, 0, none⟩), w.alloc (.cells cs.toArray T), by
  subst hc
  simp [execOp, Instr.alloc, hz, Jgv], (k w.heap.size).out _ (hF.grow (Jad w _)) (sat_new hF hS cs T)⟩
theorem Y6 {w : World} {i b : Nat} {cs : List Value} {T : TypeId} (hS : Sat cx w L) (hL : L[i]? = some (Jp b cs T)) : w.heap[b]? = some (.cells cs.toArray T (0, 0)) := by
 obtain ⟨fp, h1, _, _⟩ := hS.out
 exact (h1 i _ hL).2
theorem Jdj {w : World} {b o : Nat} {cs : List Value} {T : TypeId} (h : w.heap[b]? = some (.cells cs.toArray T (0, 0))) : w.cell? ⟨b, o, none⟩ = cs[o]? := by
 simp [World.cell?, h]
theorem Wj {T k b o : Nat} {vs : List Value} {w : World} (hA : ∀ w, (isAgg T).run P w = .ok true w) (hs : ∀ w, (sizeOf T).run P w = .ok k w) (hl : vs.length = k)
  (h : ∀ j v, vs[j]? = some v → w.cell? ⟨b, o + j, none⟩ = some v) : (loadVar T ⟨b, o, none⟩).run P w = .ok (.agg vs.toArray) w := by
 subst hl
 have := run_loadCells_list (P := P) (w := w) ⟨b, o, none⟩ vs (fun j v hv => by rw [Addr.add_lit]; exact h j v hv)
 simp [loadVar, hA, hs, this]
theorem U7 {T b o : Nat} {v : Value} {w : World} (hA : ∀ w, (isAgg T).run P w = .ok false w) (h : w.cell? ⟨b, o, none⟩ = some v) : (loadVar T ⟨b, o, none⟩).run P w = .ok v w := by
 simp [loadVar, hA, Go.load, Sem.run, h]
theorem l_load1 {i : Nat} {T T0 b o : Nat} {A : Operand} {cs : List Value} {v : Value} (hA : ∀ w, (isAgg T).run P w = .ok false w)
  (hw : want ops ⟨some d, .load T A, ty, pos, af, g⟩ e = true) (hn : Nat.blt d n = true) (hp : ev e A = .pointer (some ⟨b, o, none⟩)) (hL : L[i]? = some (Jp b cs T0)) (hv : rg cs o = some v)
  (k : At cx (WL P n ops Q rest) (upd e d v) L) : At cx (WL P n ops Q (⟨some d, .load T A, ty, pos, af, g⟩ :: rest)) e L :=
 Jcq hw rfl hn fun w hF hS => ⟨v, w, by
  have hc := Jdj (o := o) (Y6 hS hL)
  rw [← rg_eq, hv] at hc
  simp [execOp, Instr.loadAt, Instr.sureAddr, hp, U7 hA hc], k.out w hF hS⟩
theorem Jca {i : Nat} {T T0 b o sz : Nat} {A : Operand} {cs vs : List Value} (hA : ∀ w, (isAgg T).run P w = .ok true w) (hs : ∀ w, (sizeOf T).run P w = .ok sz w)
  (hw : want ops ⟨some d, .load T A, ty, pos, af, g⟩ e = true) (hn : Nat.blt d n = true) (hp : ev e A = .pointer (some ⟨b, o, none⟩)) (hL : L[i]? = some (Jp b cs T0)) (hv : rd cs o sz = some vs)
  (k : At cx (WL P n ops Q rest) (upd e d (.agg vs.toArray)) L) : At cx (WL P n ops Q (⟨some d, .load T A, ty, pos, af, g⟩ :: rest)) e L :=
 Jcq hw rfl hn fun w hF hS => ⟨.agg vs.toArray, w, by
  obtain ⟨h1, h2⟩ := rd_get hv
  have hr := Wj (P := P) (w := w) (b := b) (o := o) hA hs h1 (fun j v hj => by rw [Jdj (Y6 hS hL)]; exact h2 j v hj)
  simp [execOp, Instr.loadAt, Instr.sureAddr, hp, hr], k.out w hF hS⟩
theorem U5 {i : Nat} {T T0 b o sz : Nat} {A X : Operand} {x : Value} {cs cs' vs : List Value} (hs : ∀ w, (sizeOf T).run P w = .ok sz w)
  (hw : want ops ⟨none, .store T A X, ty, pos, af, g⟩ e = true) (hp : ev e A = .pointer (some ⟨b, o, none⟩)) (hx : ev e X = x) (hc : x.cells.toList = vs) (hsz : vs.length = sz) (hpos : Nat.blt 0 sz = true)
  (hone : vs.all Value.oneCell' = true)
  (hL : L[i]? = some (Jp b cs T0)) (hv : wr cs o vs = some cs')
  (k : At cx (WL P n ops Q rest) e (L.set i (Jp b cs' T0))) : At cx (WL P n ops Q (⟨none, .store T A X, ty, pos, af, g⟩ :: rest)) e L :=
 l_acts hw rfl fun w hF hS => by
  have hb := Y6 hS hL
  have hpos' : 0 < vs.length := by rw [hsz]; simpa using hpos
  obtain ⟨h1, h2⟩ := wr_eq hv hpos'
  have hst := run_storeCells_at P b o T0 vs 0 cs.toArray w hb (by simpa using h1) (by simpa using hone)
  refine ⟨w.setRow b cs'.toArray, ?_, ?_⟩
  ·have hsz' : x.cells.size = sz := by rw [← hsz, ← hc]; simp
   simp only [Nat.add_zero, List.append_assoc] at hst
   simp only [execOp, Instr.storeAt, Instr.sureAddr, storeVar, hp, hx, Sem.run_bind, Sem.run_pure, Result.andThen_ok, hs, hsz', ne_eq, not_true_eq_false, if_false, hc, hst]
   rw [h2]; simp
  ·have hset := setRow_heap w b cs.toArray cs'.toArray T0 (0, 0) hb
   refine k.out _ ⟨hF.os, hF.tape, hF.output, by simpa using hF.size, fun c hcn => ?_⟩ ?_
   ·rw [setRow_other w b c _ (fun e => ?_)]
    ·exact hF.block c hcn
    ·obtain ⟨fp, f1, f2, _⟩ := hS.out
     have := (f2 i b ((f1 i _ hL).1 b |>.2 rfl)).2.2
     subst e
     exact hcn this
   ·refine hS.set hF hL (by simp) fun S hSp hSo => ⟨S, ⟨hSp.1, hset⟩, fun c hc => ⟨by simpa using (hSo c hc).1, .inl hc⟩, fun c _ hcS => setRow_other w b c _ (fun e => hcS ((hSp.1 c).2 e))⟩
theorem Ya {d : Option Nat} {T fld b o fo ft fsz bo : Nat} {nm tg pk : String} {em : Bool} {X : Operand} {fs : Array Field} (hu : ∀ w, (underlying T).run P w = .ok (.struct fs) w)
  (hf : fs[fld]? = some ⟨nm, ft, fo, em, tg, pk, bo⟩) (hs : ∀ w, (sizeOf ft).run P w = .ok fsz w) (hsz : Nat.blt 0 fsz = true) (hp : ev e X = .pointer (some ⟨b, o, none⟩)) (w : World) :
  (execOp (ev e) ⟨d, .fieldAddr T X fld, ty, pos, af, g⟩).run P w = .ok (.value (.pointer (some ⟨b, o + fo, none⟩))) w := by
 have hne : fsz ≠ 0 := by have : 0 < fsz := by simpa using hsz
                          omega
 simp [execOp, Instr.fieldAt, hu, hf, Instr.sureAddr, hp, fieldPlace, hs, hne, Addr.add_lit]
def Ret (P : Program) (f : FuncId) (args : List Value) (v : Value) : Prop := ∀ w, Does P f args.toArray w fun v' w' => v' = v ∧ Grow w w'
theorem Jc4 {f : FuncId} {A : Array Operand} {tys : Array TypeId} {args : List Value} (hc : ∀ args w, (callFunc f args).run P w = .ok (.enter f args) w) (ha : A.toList.map (ev e) = args) (w : World) :
  (execOp (ev e) ⟨some d, .call ⟨.value (.func f), A, tys⟩, ty, pos, af, g⟩).run P w = .ok (.enter f args.toArray) w := by
 subst ha
 have : (A.toList.map (ev e)).toArray = A.map (ev e) := by rw [← Array.toList_map, Array.toArray_toList]
 rw [this]
 simp only [execOp, resolve, ev, Deferred.ofValue, Sem.run_bind, Sem.run_pure, Result.andThen_ok, invoke, hc, Array.append_empty, Array.empty_append]
theorem Qc {f : FuncId} {A : Array Operand} {tys : Array TypeId} {args : List Value} {v : Value} (h : Ret P f args v) (hc : ∀ args w, (callFunc f args).run P w = .ok (.enter f args) w)
  (hw : want ops ⟨some d, .call ⟨.value (.func f), A, tys⟩, ty, pos, af, g⟩ e = true) (hn : Nat.blt d n = true) (ha : A.toList.map (ev e) = args)
  (k : At cx (WL P n ops Q rest) (upd e d v) L) : At cx (WL P n ops Q (⟨some d, .call ⟨.value (.func f), A, tys⟩, ty, pos, af, g⟩ :: rest)) e L :=
 l_calls hw rfl hn (Jc4 hc ha) fun w hF hS => (h w).mono fun v' w' ⟨hv, hg⟩ => by
  subst hv
  exact k.out w' (hF.grow hg) (hS.grow hg)
theorem results_one {fn : Func} {t : Tmp} (h : fn.results = #[.tmp t]) (tmps : Array Value) (w : World) : (results fn tmps).run P w = .ok (tmps.getD t undef) w := by
 simp [results, h]
theorem results_two {fn : Func} {t u : Tmp} (h : fn.results = #[.tmp t, .tmp u]) (tmps : Array Value) (w : World) : (results fn tmps).run P w = .ok (.tuple #[tmps.getD t undef, tmps.getD u undef]) w := by
 simp [results, h]
theorem Jhi {fn : Func} {t u s : Tmp} (h : fn.results = #[.tmp t, .tmp u, .tmp s]) (tmps : Array Value) (w : World) : (results fn tmps).run P w = .ok (.tuple #[tmps.getD t undef, tmps.getD u undef, tmps.getD s undef]) w := by
 simp [results, h]
theorem Wm {fn : Func} {R : Value → World → Prop} {t : Tmp} {v : Value} (hr : fn.results = #[.tmp t]) (ht : e t = v) (k : ∀ w, Fr cx w → Sat cx w L → R v w) : At cx (Jey P fn R .ret) e L :=
 ⟨fun w hF hS tmps hs => ⟨v, by rw [results_one hr, hs, ht], k w hF hS⟩⟩
theorem Uy {fn : Func} {R : Value → World → Prop} {t u : Tmp} {v1 v2 : Value} (hr : fn.results = #[.tmp t, .tmp u]) (h1 : e t = v1) (h2 : e u = v2) (k : ∀ w, Fr cx w → Sat cx w L → R (.tuple #[v1, v2]) w) : At cx (Jey P fn R .ret) e L :=
 ⟨fun w hF hS tmps hs => ⟨.tuple #[v1, v2], by rw [results_two hr, hs, hs, h1, h2], k w hF hS⟩⟩
theorem ret3 {fn : Func} {R : Value → World → Prop} {t u s : Tmp} {v1 v2 v3 : Value} (hr : fn.results = #[.tmp t, .tmp u, .tmp s]) (h1 : e t = v1) (h2 : e u = v2) (h3 : e s = v3) (k : ∀ w, Fr cx w → Sat cx w L → R (.tuple #[v1, v2, v3]) w) : At cx (Jey P fn R .ret) e L :=
 ⟨fun w hF hS tmps hs => ⟨.tuple #[v1, v2, v3], by rw [Jhi hr, hs, hs, hs, h1, h2, h3], k w hF hS⟩⟩
theorem Jhc {fn : Func} {t T b u : Nat} {v : Value} (h : fn.results = #[.cell t T, .tmp u]) (tmps : Array Value) (w : World) (ht : tmps.getD t undef = .pointer (some ⟨b, 0, none⟩)) (hl : (loadVar T ⟨b, 0, none⟩).run P w = .ok v w) :
  (results fn tmps).run P w = .ok (.tuple #[v, tmps.getD u undef]) w := by
 rw [Array.getD_eq_getD_getElem?] at ht
 simp [results, h, ht, asAddr, hl]
theorem retCt {i : Nat} {fn : Func} {R : Value → World → Prop} {t T T0 b sz u : Nat} {cs vs : List Value} {v2 : Value} (hA : ∀ w, (isAgg T).run P w = .ok true w) (hs : ∀ w, (sizeOf T).run P w = .ok sz w) (hr : fn.results = #[.cell t T, .tmp u])
  (ht : e t = .pointer (some ⟨b, 0, none⟩)) (hL : L[i]? = some (Jp b cs T0)) (hv : rd cs 0 sz = some vs) (h2 : e u = v2) (k : ∀ w, Fr cx w → Sat cx w L → R (.tuple #[.agg vs.toArray, v2]) w) : At cx (Jey P fn R .ret) e L :=
 ⟨fun w hF hS tmps hts => ⟨.tuple #[.agg vs.toArray, v2], by
  obtain ⟨h1, h2'⟩ := rd_get hv
  have hl := Wj (P := P) (w := w) (b := b) (o := 0) hA hs h1 (fun j v hj => by rw [Jdj (Y6 hS hL)]; exact h2' j v hj)
  rw [Jhc hr tmps w (by rw [hts, ht]) hl, hts, h2], k w hF hS⟩⟩
theorem fin {w0 : World} {L : List Chunk} {v v' : Value} (h : v' = v) : ∀ w, Fr ⟨w0, fun _ => False⟩ w → Sat ⟨w0, fun _ => False⟩ w L → (v' = v ∧ Grow w0 w) :=
 fun w hF _ => ⟨h, hF.os, hF.tape, hF.output, hF.size, fun k hk => hF.block k (by simp [Cx.own]; exact hk)⟩
theorem J7 {f : FuncId} {fn : Func} {c : Code} {args : List Value} {v : Value} (hf : P.funcs[f]? = some fn) (hb : fn.body = some c) (hn : fn.ntmps = n) (hle : Nat.ble args.length n = true)
  (h : ∀ w, At ⟨w, fun _ => False⟩ (WC P n c (Jey P fn fun v' w' => v' = v ∧ Grow w w')) (lget args) []) : Ret P f args v :=
 fun w => enter hf hb hn hle (fun _ => False) [] (Sat.nil _ _) (h w)
def mkE : List (Nat × Value) → Q6 → Q6
 | [], g => g
 | (a, v) :: r, g => fun t => bif Nat.beq t a then v else mkE r g t
def Jez (e : Q6) : List (Nat × Value) → Prop
 | [] => True
 | (a, v) :: r => e a = v ∧ Jez e r
theorem Jgh (e : Q6) : ∀ l, Jez e l → mkE l e = e
 | [], _ => rfl
 | (a, v) :: r, ⟨h, hr⟩ => by
  funext t
  simp only [mkE, beq_eq, Jgh e r hr]
  by_cases ht : t = a
  ·simp [ht, h]
  ·simp [ht]
structure RoundEnd {σ : Type} (cx : Cx) (st : σ → List (Nat × Value)) (hp : σ → List Chunk) (I : σ → Prop) (m : Nat) (μ : σ → Nat) (e : Q6) (w : World) : Prop where
 out : ∃ s, Jez e (st s) ∧ Fr cx w ∧ Sat cx w (hp s) ∧ I s ∧ μ s < m
end rules
end Go.Vc

/- A region whose order Go leaves open: one walk in the order of the text serves every order, also where operations make memory or turn it. Conditions: what two operations both touch is ordered by the region's edges (a Bool that the kernel reckons). -/
namespace Go.Vc
open Go
inductive Kd where
 | p
 | g (rs rds wrs : List Nat) (V : List Value → List (Option Chunk) → Value → Prop) (T : List Value → List (Option Chunk) → Value → List Chunk)
def Kd.d (rds : List Nat) (v0 : Value) : Kd := .g [] rds [] (fun _ _ v => v = v0) (fun _ _ _ => [])
abbrev Look := Nat → Option Chunk
def Ja0 (L : List Chunk) : Look := fun i => L[i]?
def Kd.rs : Kd → List Nat | .p => [] | .g rs _ _ _ _ => rs
def Kd.rds : Kd → List Nat | .p => [] | .g _ rds _ _ _ => rds
def Kd.wrs : Kd → List Nat | .p => [] | .g _ _ wrs _ _ => wrs
def Kd.V (P : Program) (o : Oper) (s : Kd) (e : Q6) (l : Look) (v : Value) : Prop :=
 match s with
 | .p => ∀ w, (execOp (ev e) o).run P w = .ok (.value v) w
 | .g rs rds _ V _ => V (rs.map e) (rds.map l) v
def Kd.T (s : Kd) (e : Q6) (l : Look) (v : Value) : List (Nat × Chunk) :=
 match s with
 | .p => []
 | .g rs rds wrs _ T => wrs.zip (T (rs.map e) (rds.map l) v)
def Xv (L : List Chunk) : List (Nat × Chunk) → List Chunk
 | [] => L
 | (i, c) :: r => Xv (L.set i c) r
def Jcn (e : Q6) (d : Option Nat) (v : Value) : Q6 := match d with | some d => upd e d v | none => e
def RunsTo (P : Program) (ρ : Operand → Value) (o : Oper) (w : World) (R : Value → World → Prop) : Prop :=
 match (execOp ρ o).run P w with
 | .ok (.value v) w' => R v w'
 | .ok .skip w' => R undef w'
 | .ok (.enter f args) w' => Does P f args w' R
 | _ => False
theorem RunsTo.mono {P : Program} {ρ : Operand → Value} {o : Oper} {w : World} {R R' : Value → World → Prop} (h : RunsTo P ρ o w R) (hr : ∀ v w', R v w' → R' v w') : RunsTo P ρ o w R' := by
 unfold RunsTo at *
 generalize (execOp ρ o).run P w = r at *
 cases r with
 | halt x w' => exact h
 | ok nx w' =>
  cases nx <;> first | exact hr _ _ h | exact Does.mono h hr | exact h
structure LV (P : Program) (cx : Cx) (o : Oper) (s : Kd) (e : Q6) (L : List Chunk) : Prop where
 out : ∀ (w : World) (L' : List Chunk), Fr cx w → Sat cx w L' → L'.length = L.length → (∀ i, i ∈ s.rds ∨ i ∈ s.wrs → L'[i]? = L[i]?) →
  RunsTo P (ev e) o w (fun v w' => s.V P o e (Ja0 L) v ∧ Fr cx w' ∧ Sat cx w' (Xv L' (s.T e (Ja0 L) v)))
inductive Sq (P : Program) (cx : Cx) (ops : Array Oper) (F : Q6 → List Chunk → Prop) : List Oper → List Kd → Q6 → List Chunk → Prop
 | nil {e : Q6} {L : List Chunk} (h : F e L) : Sq P cx ops F [] [] e L
 | pass {o : Oper} {os : List Oper} {s : Kd} {ss : List Kd} {e : Q6} {L : List Chunk} (hw : want ops o e = false) (h : Sq P cx ops F os ss (Jcn e o.dst undef) L) : Sq P cx ops F (o :: os) (s :: ss) e L
 | take {o : Oper} {os : List Oper} {s : Kd} {ss : List Kd} {e : Q6} {L : List Chunk} (hw : want ops o e = true) (hi : ∃ v, s.V P o e (Ja0 L) v) (hl : LV P cx o s e L)
   (h : ∀ v, s.V P o e (Ja0 L) v → Sq P cx ops F os ss (Jcn e o.dst v) (Xv L (s.T e (Ja0 L) v))) : Sq P cx ops F (o :: os) (s :: ss) e L
def binding (o : Oper) (i : Nat) : Bool := o.after.toList.any fun x => Region.binds .any x && Nat.beq x.on i
def Jef (l : List Oper) : Nat → Nat → Nat → Bool
 | 0, _, _ => false
 | f + 1, k, i =>
  match l[k]? with
  | none => false
  | some o => binding o i || o.after.toList.any fun x => Region.binds .any x && Jef l f x.on i
def Jfb (a b : List Nat) : Bool := a.any fun x => b.any fun y => Nat.beq x y
def Jbz (ops : Array Oper) (o1 o2 : Oper) (s1 s2 : Kd) : Bool :=
 Jfb o1.dst.toList (o2.looksAt ops) || Jfb o1.dst.toList o2.dst.toList || Jfb o2.dst.toList (o1.looksAt ops) ||
 Jfb s1.wrs s2.rds || Jfb s1.wrs s2.wrs || Jfb s1.rds s2.wrs
def subs (a b : List Nat) : Bool := a.all fun x => b.any fun y => Nat.beq x y
def checkD (n : Nat) (l : List Oper) (sp : List Kd) : Bool :=
 Nat.beq l.length sp.length && Region.noSelect l.toArray &&
 (List.range l.length).all fun k =>
  match l[k]?, sp[k]? with
  | some o, some s =>
   (o.after.toList.all fun x => !Region.binds .any x || Nat.blt x.on k) && (o.dst.all fun d => Nat.blt d n) && subs s.rs (o.looksAt l.toArray) &&
   (List.range k).all fun i =>
    match l[i]?, sp[i]? with
    | some o1, some s1 => !Jbz l.toArray o1 o s1 s || Jef l 3 k i
    | _, _ => false
  | _, _ => false
theorem Jch {a b : List Nat} {x : Nat} (ha : x ∈ a) (hb : x ∈ b) : Jfb a b = true := by
 unfold Jfb
 rw [List.any_eq_true]
 exact ⟨x, ha, List.any_eq_true.2 ⟨x, hb, by simp⟩⟩
section sound
variable {P : Program} {n : Nat} {cx : Cx} {Q : Va} {l : List Oper} {sp : List Kd} {e0 : Q6} {L0 : List Chunk}
def od (l : List Oper) (k : Nat) : Oper := l.getD k default
def sd (sp : List Kd) (k : Nat) : Kd := sp.getD k .p
def EL (P : Program) (l : List Oper) (sp : List Kd) (e0 : Q6) (L0 : List Chunk) (S : Nat → Bool) (val : Nat → Value) : Nat → Q6 × List Chunk
 | 0 => (e0, L0)
 | k + 1 =>
  let x := EL P l sp e0 L0 S val k
  if S k then (Jcn x.1 (od l k).dst (val k), if want l.toArray (od l k) x.1 = true then Xv x.2 ((sd sp k).T x.1 (Ja0 x.2) (val k)) else x.2) else x
structure Ok (n : Nat) (l : List Oper) (sp : List Kd) : Prop where
 len : l.length = sp.length
 nosel : Region.noSelect l.toArray = true
 back : ∀ k x, k < l.length → x ∈ (od l k).after.toList → Region.binds .any x = true → x.on < k
 dst : ∀ k d, k < l.length → (od l k).dst = some d → Nat.blt d n = true
 rs : ∀ k t, k < l.length → t ∈ (sd sp k).rs → t ∈ (od l k).looksAt l.toArray
 ord : ∀ k i, k < l.length → i < k → Jbz l.toArray (od l i) (od l k) (sd sp i) (sd sp k) = true → Jef l 3 k i = true
theorem ok_of (h : checkD n l sp = true) : Ok n l sp := by
 unfold checkD at h
 simp only [Bool.and_eq_true, List.all_eq_true, List.mem_range] at h
 obtain ⟨⟨h1, h2⟩, h3⟩ := h
 have hlen : l.length = sp.length := by simpa using h1
 have key : ∀ k, k < l.length → l[k]? = some (od l k) ∧ sp[k]? = some (sd sp k) := by
  intro k hk
  have hk' : k < sp.length := by omega
  exact ⟨by simp [od, List.getD_eq_getElem?_getD, List.getElem?_eq_getElem hk], by simp [sd, List.getD_eq_getElem?_getD, List.getElem?_eq_getElem hk']⟩
 have h4 : ∀ k, k < l.length → _ := fun k hk => by
  have := h3 k hk
  rw [(key k hk).1, (key k hk).2] at this
  simp only [Bool.and_eq_true, List.all_eq_true, List.mem_range] at this
  exact this
 refine ⟨hlen, h2, ?_, ?_, ?_, ?_⟩
 ·intro k x hk hx hb
  have := (h4 k hk).1.1.1
  have := this x hx
  simpa [hb] using this
 ·intro k d hk hd
  have := (h4 k hk).1.1.2
  rw [hd] at this
  simpa using this
 ·intro k t hk ht
  have := (h4 k hk).1.2
  unfold subs at this
  rw [List.all_eq_true] at this
  obtain ⟨y, hy, hyt⟩ := List.any_eq_true.1 (this t ht)
  have : t = y := by simpa using hyt
  rw [this]; exact hy
 ·intro k i hk hi hc
  have := (h4 k hk).2 i hi
  rw [(key i (by omega)).1, (key i (by omega)).2] at this
  simpa [hc] using this
def Jft (l : List Oper) (S : Nat → Prop) (k : Nat) : Prop := ∀ x ∈ (od l k).after.toList, Region.binds .any x = true → S x.on
theorem reach_in (S : Nat → Prop) (hS : ∀ k, k < l.length → S k → Jft l S k) (hb : ∀ k x, k < l.length → x ∈ (od l k).after.toList → Region.binds .any x = true → x.on < k) :
  ∀ f k i, k < l.length → Jft l S k → Jef l f k i = true → S i := by
 intro f
 induction f with
 | zero => intro k i _ _ h; simp [Jef] at h
 | succ f ih =>
  intro k i hk hc h
  have hlk : l[k]? = some (od l k) := by simp [od, List.getD_eq_getElem?_getD, List.getElem?_eq_getElem hk]
  simp only [Jef, hlk, Bool.or_eq_true] at h
  rcases h with h | h
  ·unfold binding at h
   rw [List.any_eq_true] at h
   obtain ⟨x, hx, hxb⟩ := h
   simp only [Bool.and_eq_true] at hxb
   have : x.on = i := by simpa using hxb.2
   rw [← this]
   exact hc x hx hxb.1
  ·rw [List.any_eq_true] at h
   obtain ⟨x, hx, hxb⟩ := h
   simp only [Bool.and_eq_true] at hxb
   have hlt := hb k x hk hx hxb.1
   exact ih x.on i (by omega) (hS x.on (by omega) (hc x hx hxb.1)) hxb.2
theorem Jc1 (T : List (Nat × Chunk)) : ∀ L : List Chunk, (Xv L T).length = L.length := by
 induction T with
 | nil => intro L; rfl
 | cons p T ih => intro L; obtain ⟨i, c⟩ := p; simp [Xv, ih]
theorem Z8 (T : List (Nat × Chunk)) : ∀ (L : List Chunk) (i : Nat), (∀ p ∈ T, p.1 ≠ i) → (Xv L T)[i]? = L[i]? := by
 induction T with
 | nil => intro L i _; rfl
 | cons p T ih =>
  intro L i h
  obtain ⟨j, c⟩ := p
  simp only [Xv]
  rw [ih _ i (fun p hp => h p (List.mem_cons_of_mem _ hp)), List.getElem?_set_ne]
  exact h (j, c) (List.mem_cons_self ..)
theorem Jdt (T : List (Nat × Chunk)) : ∀ (L L' : List Chunk) (i : Nat), L.length = L'.length → L[i]? = L'[i]? → (Xv L T)[i]? = (Xv L' T)[i]? := by
 induction T with
 | nil => intro L L' i _ h; exact h
 | cons p T ih =>
  intro L L' i hl h
  obtain ⟨j, c⟩ := p
  simp only [Xv]
  refine ih _ _ i (by simp [hl]) ?_
  by_cases hji : j = i
  ·subst hji
   rw [List.getElem?_set, List.getElem?_set, if_pos rfl, if_pos rfl, hl]
  ·rw [List.getElem?_set_ne hji, List.getElem?_set_ne hji, h]
theorem T_in (s : Kd) (e : Q6) (lk : Look) (v : Value) : ∀ p ∈ s.T e lk v, p.1 ∈ s.wrs := by
 intro p hp
 cases s with
 | p => simp [Kd.T] at hp
 | g rs rds wrs V T =>
  simp only [Kd.T] at hp
  exact (List.of_mem_zip (a := p.1) (b := p.2) hp).1
theorem T_loc (s : Kd) {e e' : Q6} {lk lk' : Look} (h1 : ∀ t ∈ s.rs, e t = e' t) (h2 : ∀ i ∈ s.rds, lk i = lk' i) (v : Value) : s.T e lk v = s.T e' lk' v := by
 cases s with
 | p => rfl
 | g rs rds wrs V T =>
  have h1' : rs.map e = rs.map e' := List.map_congr_left h1
  have h2' : rds.map lk = rds.map lk' := List.map_congr_left h2
  simp only [Kd.T, h1', h2']
theorem ev_loc {e e' : Q6} {o : Oper} (hs : ∀ cs b, o.op ≠ .select cs b) {ops : Array Oper} (h : ∀ t ∈ o.looksAt ops, e t = e' t) : execOp (ev e) o = execOp (ev e') o := by
 refine execOp_congr o hs fun x hx => ?_
 cases x with
 | tmp t => exact h t (List.mem_append_left _ (List.mem_filterMap.2 ⟨.tmp t, by simpa using hx, rfl⟩))
 | const v => rfl
 | global g => rfl
 | func f => rfl
theorem V_loc {o : Oper} (s : Kd) (hs : ∀ cs b, o.op ≠ .select cs b) {ops : Array Oper} {e e' : Q6} {lk lk' : Look} (h : ∀ t ∈ o.looksAt ops, e t = e' t) (h1 : ∀ t ∈ s.rs, e t = e' t) (h2 : ∀ i ∈ s.rds, lk i = lk' i) (v : Value) :
  s.V P o e lk v = s.V P o e' lk' v := by
 cases s with
 | p => simp only [Kd.V]; rw [ev_loc hs h]
 | g rs rds wrs V T =>
  have h1' : rs.map e = rs.map e' := List.map_congr_left h1
  have h2' : rds.map lk = rds.map lk' := List.map_congr_left h2
  simp only [Kd.V, h1', h2']
theorem V_locL {o : Oper} (s : Kd) (hs : ∀ cs b, o.op ≠ .select cs b) {ops : Array Oper} {e e' : Q6} {L L' : List Chunk} (h : ∀ t ∈ o.looksAt ops, e t = e' t) (h1 : ∀ t ∈ s.rs, e t = e' t) (h2 : ∀ i ∈ s.rds, L[i]? = L'[i]?) (v : Value) :
  s.V P o e (Ja0 L) v = s.V P o e' (Ja0 L') v := V_loc s hs h h1 h2 v
theorem Jcf {o : Oper} {ops : Array Oper} {e e' : Q6} (h : ∀ t ∈ o.looksAt ops, e t = e' t) : want ops o e = want ops o e' := by
 unfold want
 cases hg : o.guard with
 | none => rfl
 | some jb =>
  obtain ⟨j, b⟩ := jb
  simp only
  cases hd : (ops[j]?).bind (·.dst) with
  | none => rfl
  | some d =>
   have : e d = e' d := h d (by unfold Oper.looksAt; rw [hg]; exact List.mem_append_right _ (by simp [hd]))
   simp only [this]
theorem Jfl {e e' : Q6} {t : Nat} (d : Option Nat) (v : Value) (h : d ≠ some t → e t = e' t) : Jcn e d v t = Jcn e' d v t := by
 cases d with
 | none => exact h (by simp)
 | some d =>
  by_cases ht : t = d
  ·subst ht; simp [Jcn, upd_same]
  ·simp only [Jcn]; rw [upd_ne _ _ _ _ ht, upd_ne _ _ _ _ ht]; exact h (by simpa using fun h => ht h.symm)
theorem Jab {e : Q6} {t : Nat} {d : Option Nat} (v : Value) (h : d ≠ some t) : Jcn e d v t = e t := by
 cases d with
 | none => rfl
 | some d => simp only [Jcn]; exact upd_ne _ _ _ _ (by simpa using fun h' => h (by rw [h']))
theorem Jd3 (S : Nat → Bool) (val : Nat → Value) : ∀ k, (EL P l sp e0 L0 S val k).2.length = L0.length := by
 intro k
 induction k with
 | zero => rfl
 | succ k ih =>
  simp only [EL]
  split
  ·split
   ·simp [Jc1, ih]
   ·exact ih
  ·exact ih
theorem Jg4 {ops : Array Oper} {o1 o2 : Oper} {s1 s2 : Kd} {t : Nat} (h1 : o1.dst = some t) (h2 : t ∈ o2.looksAt ops) : Jbz ops o1 o2 s1 s2 = true := by
 unfold Jbz; rw [Jch (a := o1.dst.toList) (x := t) (by simp [h1]) h2]; rfl
theorem clash_dd {ops : Array Oper} {o1 o2 : Oper} {s1 s2 : Kd} {t : Nat} (h1 : o1.dst = some t) (h2 : o2.dst = some t) : Jbz ops o1 o2 s1 s2 = true := by
 unfold Jbz; rw [Jch (a := o1.dst.toList) (b := o2.dst.toList) (x := t) (by simp [h1]) (by simp [h2])]; simp
theorem clash_ld {ops : Array Oper} {o1 o2 : Oper} {s1 s2 : Kd} {t : Nat} (h1 : t ∈ o1.looksAt ops) (h2 : o2.dst = some t) : Jbz ops o1 o2 s1 s2 = true := by
 unfold Jbz; rw [Jch (a := o2.dst.toList) (x := t) (by simp [h2]) h1]; simp
theorem Jfg {ops : Array Oper} {o1 o2 : Oper} {s1 s2 : Kd} {i : Nat} (h1 : i ∈ s1.wrs) (h2 : i ∈ s2.rds ∨ i ∈ s2.wrs) : Jbz ops o1 o2 s1 s2 = true := by
 unfold Jbz
 rcases h2 with h2 | h2
 ·rw [Jch h1 h2]; simp
 ·rw [Jch (a := s1.wrs) (b := s2.wrs) h1 h2]; simp
theorem clash_rw {ops : Array Oper} {o1 o2 : Oper} {s1 s2 : Kd} {i : Nat} (h1 : i ∈ s1.rds ∨ i ∈ s1.wrs) (h2 : i ∈ s2.wrs) : Jbz ops o1 o2 s1 s2 = true := by
 unfold Jbz
 rcases h1 with h1 | h1
 ·rw [Jch (a := s1.rds) (b := s2.wrs) h1 h2]; simp
 ·rw [Jch (a := s1.wrs) (b := s2.wrs) h1 h2]; simp
theorem EL_agree (ok : Ok n l sp) {S S' : Nat → Bool} {val val' : Nat → Value} :
  ∀ k, k < l.length → (∀ i, i < k → Jef l 3 k i = true → S i ∧ S' i ∧ val i = val' i) →
   (∀ i, i < k → S i → S' i → val i = val' i ∧
    ((∀ t ∈ (od l i).looksAt l.toArray, (EL P l sp e0 L0 S val i).1 t = (EL P l sp e0 L0 S' val' i).1 t) ∧
     (∀ r, r ∈ (sd sp i).rds ∨ r ∈ (sd sp i).wrs → (EL P l sp e0 L0 S val i).2[r]? = (EL P l sp e0 L0 S' val' i).2[r]?))) →
   ∀ j, j ≤ k → (∀ t ∈ (od l k).looksAt l.toArray, (EL P l sp e0 L0 S val j).1 t = (EL P l sp e0 L0 S' val' j).1 t) ∧
    (∀ r, r ∈ (sd sp k).rds ∨ r ∈ (sd sp k).wrs → (EL P l sp e0 L0 S val j).2[r]? = (EL P l sp e0 L0 S' val' j).2[r]?) := by
 intro k hk hcl hin j
 induction j with
 | zero => intro _; exact ⟨fun _ _ => rfl, fun _ _ => rfl⟩
 | succ j ih =>
  intro hj
  obtain ⟨ih1, ih2⟩ := ih (by omega)
  by_cases hb : S j ∧ S' j
  ·obtain ⟨hv, hl1, hl2⟩ := hin j (by omega) hb.1 hb.2
   have hw : want l.toArray (od l j) (EL P l sp e0 L0 S val j).1 = want l.toArray (od l j) (EL P l sp e0 L0 S' val' j).1 := Jcf hl1
   have hT : (sd sp j).T (EL P l sp e0 L0 S val j).1 (Ja0 (EL P l sp e0 L0 S val j).2) (val j) = (sd sp j).T (EL P l sp e0 L0 S' val' j).1 (Ja0 (EL P l sp e0 L0 S' val' j).2) (val' j) := by
    rw [hv]
    exact T_loc _ (fun t ht => hl1 t (ok.rs j t (by omega) ht)) (fun i hi => hl2 i (.inl hi)) _
   simp only [EL, if_pos hb.1, if_pos hb.2]
   refine ⟨fun t ht => ?_, fun r hr => ?_⟩
   ·rw [hv]; exact Jfl _ _ (fun _ => ih1 t ht)
   ·rw [hw, hT]
    split
    ·exact Jdt _ _ _ r (by rw [Jd3, Jd3]) (ih2 r hr)
    ·exact ih2 r hr
  ·have hnr : ¬ Jef l 3 k j = true := fun hr => hb ⟨(hcl j (by omega) hr).1, (hcl j (by omega) hr).2.1⟩
   have hnc : ¬ Jbz l.toArray (od l j) (od l k) (sd sp j) (sd sp k) = true := fun hc => hnr (ok.ord k j hk (by omega) hc)
   have one : ∀ (X : Nat → Bool) (va : Nat → Value), (∀ t ∈ (od l k).looksAt l.toArray, (EL P l sp e0 L0 X va (j + 1)).1 t = (EL P l sp e0 L0 X va j).1 t) ∧
     (∀ r, r ∈ (sd sp k).rds ∨ r ∈ (sd sp k).wrs → (EL P l sp e0 L0 X va (j + 1)).2[r]? = (EL P l sp e0 L0 X va j).2[r]?) := by
    intro X va
    simp only [EL]
    split
    ·refine ⟨fun t ht => ?_, fun r hr => ?_⟩
     ·exact Jab _ (fun hd => hnc (Jg4 hd ht))
     ·split
      ·exact Z8 _ _ r (fun p hp hpr => hnc (Jfg (by rw [← hpr]; exact T_in _ _ _ _ p hp) hr))
      ·rfl
    ·exact ⟨fun _ _ => rfl, fun _ _ => rfl⟩
   refine ⟨fun t ht => ?_, fun r hr => ?_⟩
   ·rw [(one S val).1 t ht, (one S' val').1 t ht]; exact ih1 t ht
   ·rw [(one S val).2 r hr, (one S' val').2 r hr]; exact ih2 r hr
def Sc (l : List Oper) (S : Nat → Bool) : Prop := ∀ k, k < l.length → S k = true → Jft l (fun i => S i = true) k
theorem Uc (ok : Ok n l sp) {S : Nat → Bool} (hS : Sc l S) {k i : Nat} (hk : k < l.length) (hc : Jft l (fun i => S i = true) k) (h : Jef l 3 k i = true) : S i = true :=
 reach_in (fun i => S i = true) (fun k hk h => hS k hk h) ok.back 3 k i hk hc h
theorem agree_all (ok : Ok n l sp) {S S' : Nat → Bool} {val val' : Nat → Value} (hS : Sc l S) (hS' : ∀ i, S i = true → S' i = true) (hv : ∀ i, S i = true → val i = val' i) :
  ∀ k, k < l.length → Jft l (fun i => S i = true) k → (∀ t ∈ (od l k).looksAt l.toArray, (EL P l sp e0 L0 S val k).1 t = (EL P l sp e0 L0 S' val' k).1 t) ∧
    (∀ r, r ∈ (sd sp k).rds ∨ r ∈ (sd sp k).wrs → (EL P l sp e0 L0 S val k).2[r]? = (EL P l sp e0 L0 S' val' k).2[r]?) := by
 intro k
 induction k using Nat.strongRecOn with
 | _ k ih =>
  intro hk hc
  exact EL_agree ok k hk (fun i hi hr => ⟨Uc ok hS hk hc hr, hS' i (Uc ok hS hk hc hr), hv i (Uc ok hS hk hc hr)⟩)
   (fun i hi hs _ => ⟨hv i hs, ih i hi (by omega) (hS i (by omega) hs)⟩) k (Nat.le_refl _)
theorem EL_congr (S : Nat → Bool) {val val' : Nat → Value} : ∀ k, (∀ i, i < k → val i = val' i) → EL P l sp e0 L0 S val k = EL P l sp e0 L0 S val' k := by
 intro k
 induction k with
 | zero => intro _; rfl
 | succ k ih =>
  intro h
  simp only [EL]
  rw [ih (fun i hi => h i (by omega)), h k (by omega)]
def Cons (P : Program) (l : List Oper) (sp : List Kd) (e0 : Q6) (L0 : List Chunk) (S : Nat → Bool) (val : Nat → Value) (k : Nat) : Prop :=
 ∀ j, j < k → S j = true → if want l.toArray (od l j) (EL P l sp e0 L0 S val j).1 = true then (sd sp j).V P (od l j) (EL P l sp e0 L0 S val j).1 (Ja0 (EL P l sp e0 L0 S val j).2) (val j) else val j = undef
def full : Nat → Bool := fun _ => true
theorem drop_od {k : Nat} (hk : k < l.length) : l.drop k = od l k :: l.drop (k + 1) := by
 rw [List.drop_eq_getElem_cons hk]; simp [od, List.getD_eq_getElem?_getD, List.getElem?_eq_getElem hk]
theorem drop_sd {k : Nat} (hk : k < sp.length) : sp.drop k = sd sp k :: sp.drop (k + 1) := by
 rw [List.drop_eq_getElem_cons hk]; simp [sd, List.getD_eq_getElem?_getD, List.getElem?_eq_getElem hk]
theorem sq_at (ok : Ok n l sp) {F : Q6 → List Chunk → Prop} (h : Sq P cx l.toArray F l sp e0 L0) : ∀ k, k ≤ l.length → ∀ val, Cons P l sp e0 L0 full val k →
  Sq P cx l.toArray F (l.drop k) (sp.drop k) (EL P l sp e0 L0 full val k).1 (EL P l sp e0 L0 full val k).2 := by
 intro k
 induction k with
 | zero => intro _ _ _; simpa [EL] using h
 | succ k ih =>
  intro hk val hc
  have h0 := ih (by omega) val (fun j hj => hc j (by omega))
  rw [drop_od (by omega), drop_sd (by have := ok.len; omega)] at h0
  have hck := hc k (by omega) rfl
  simp only [EL, full, if_true]
  cases h0 with
  | pass hw h1 =>
   rw [if_neg (by rw [hw]; simp)] at hck
   rw [if_neg (by rw [hw]; simp), hck]
   exact h1
  | take hw hi hl h1 =>
   rw [if_pos hw] at hck
   rw [if_pos hw]
   exact h1 _ hck
theorem fill (ok : Ok n l sp) {F : Q6 → List Chunk → Prop} (h : Sq P cx l.toArray F l sp e0 L0) {S : Nat → Bool} {val : Nat → Value} (hS : Sc l S) (hc : Cons P l sp e0 L0 S val l.length) :
  ∀ k, k ≤ l.length → ∃ val', (∀ i, S i = true → val' i = val i) ∧ Cons P l sp e0 L0 full val' k := by
 intro k
 induction k with
 | zero => intro _; exact ⟨val, fun _ _ => rfl, fun j hj => by omega⟩
 | succ k ih =>
  intro hk
  obtain ⟨val', hv, hcf⟩ := ih (by omega)
  by_cases hSk : S k = true
  ·refine ⟨val', hv, fun j hj hf => ?_⟩
   by_cases hjk : j = k
   ·subst hjk
    have hj' := hc j (by omega) hSk
    obtain ⟨a1, a2⟩ := agree_all (P := P) (e0 := e0) (L0 := L0) ok (S' := full) (val' := val') hS (fun _ _ => rfl) (fun i hi => (hv i hi).symm) j (by omega) (hS j (by omega) hSk)
    rw [← Jcf (ops := l.toArray) a1, hv j hSk]
    split
    ·rename_i hw
     rw [if_pos hw] at hj'
     rw [← V_loc (lk := Ja0 (EL P l sp e0 L0 S val j).2) (lk' := Ja0 (EL P l sp e0 L0 full val' j).2) (sd sp j) (Region.noSelect_spec ok.nosel j _ · · (by simp [od, List.getD_eq_getElem?_getD, List.getElem?_eq_getElem (show j < l.length by omega)])) (ops := l.toArray) a1 (fun t ht => a1 t (ok.rs j t (by omega) ht)) (fun i hi => a2 i (.inl hi))]
     exact hj'
    ·rename_i hw
     rw [if_neg hw] at hj'
     exact hj'
   ·exact hcf j (by omega) hf
  ·have h0 := sq_at ok h k (by omega) val' hcf
   rw [drop_od (by omega), drop_sd (by have := ok.len; omega)] at h0
   have fin : ∀ v : Value, (if want l.toArray (od l k) (EL P l sp e0 L0 full val' k).1 = true then (sd sp k).V P (od l k) (EL P l sp e0 L0 full val' k).1 (Ja0 (EL P l sp e0 L0 full val' k).2) v else v = undef) →
     ∃ val'', (∀ i, S i = true → val'' i = val i) ∧ Cons P l sp e0 L0 full val'' (k + 1) := by
    intro v hvv
    refine ⟨fun i => if i = k then v else val' i, fun i hi => ?_, fun j hj hf => ?_⟩
    ·have : i ≠ k := fun e => hSk (by rw [← e]; exact hi)
     simp [this, hv i hi]
    ·have he : EL P l sp e0 L0 full (fun i => if i = k then v else val' i) j = EL P l sp e0 L0 full val' j := EL_congr full j (fun i hi => by
      have : i ≠ k := by omega
      simp [this])
     rw [he]
     by_cases hjk : j = k
     ·subst hjk
      simpa using hvv
     ·simp only [hjk, if_false]
      exact hcf j (by omega) hf
   cases h0 with
   | pass hw h1 => exact fin undef (by rw [if_neg (by rw [hw]; simp)])
   | take hw hi hl h1 =>
    obtain ⟨v, hv'⟩ := hi
    exact fin v (by rw [if_pos hw]; exact hv')
theorem tail_agree (ok : Ok n l sp) {S : Nat → Bool} {val : Nat → Value} (hS : Sc l S) {k : Nat} (hSk : S k = false) :
  ∀ j, k ≤ j → j ≤ l.length → (∀ t ∈ (od l k).looksAt l.toArray, (EL P l sp e0 L0 S val j).1 t = (EL P l sp e0 L0 S val k).1 t) ∧
    (∀ r, r ∈ (sd sp k).rds ∨ r ∈ (sd sp k).wrs → (EL P l sp e0 L0 S val j).2[r]? = (EL P l sp e0 L0 S val k).2[r]?) := by
 intro j hj
 obtain ⟨d, rfl⟩ := Nat.exists_eq_add_of_le hj
 clear hj
 induction d with
 | zero => intro _; exact ⟨fun _ _ => rfl, fun _ _ => rfl⟩
 | succ d ih =>
  intro hjl
  obtain ⟨a1, a2⟩ := ih (by omega)
  rw [show k + (d + 1) = (k + d) + 1 from rfl] at *
  generalize hjd : k + d = j at *
  have hj : k ≤ j := by omega
  simp only [EL]
  by_cases hSj : S j = true
  ·have hjk : k < j := by
    rcases Nat.lt_or_ge k j with h | h
    ·exact h
    ·have : j = k := by omega
     rw [this, hSk] at hSj; cases hSj
   have hnc : ¬ Jbz l.toArray (od l k) (od l j) (sd sp k) (sd sp j) = true := fun hc => by
    have := Uc ok hS (by omega) (hS j (by omega) hSj) (ok.ord j k (by omega) hjk hc)
    rw [hSk] at this; cases this
   rw [if_pos hSj]
   refine ⟨fun t ht => ?_, fun r hr => ?_⟩
   ·rw [← a1 t ht]
    exact Jab _ (fun hd => hnc (clash_ld ht hd))
   ·rw [← a2 r hr]
    show (if _ then _ else _)[r]? = _
    split
    ·exact Z8 _ _ r (fun p hp hpr => hnc (clash_rw hr (by rw [← hpr]; exact T_in _ _ _ _ p hp)))
    ·rfl
  ·rw [if_neg hSj]
   exact ⟨a1, a2⟩
theorem putD_comm {e : Q6} {d1 d2 : Option Nat} {v1 v2 : Value} (h : ∀ t, d1 = some t → d2 ≠ some t) : Jcn (Jcn e d1 v1) d2 v2 = Jcn (Jcn e d2 v2) d1 v1 := by
 funext t
 by_cases h1 : d1 = some t
 ·have h2 := h t h1
  subst h1
  rw [Jab _ h2]
  exact Jfl _ _ (fun hh => absurd rfl hh)
 ·rw [Jab (d := d1) _ h1]
  exact Jfl _ _ (fun _ => Jab _ h1)
theorem setAll_comm (A B : List (Nat × Chunk)) (L : List Chunk) (h : ∀ p ∈ A, ∀ q ∈ B, p.1 ≠ q.1) : Xv (Xv L A) B = Xv (Xv L B) A := by
 apply List.ext_getElem?
 intro i
 by_cases hA : ∃ p ∈ A, p.1 = i
 ·obtain ⟨p, hp, hpi⟩ := hA
  rw [Z8 B _ i (fun q hq hqi => h p hp q hq (by omega))]
  exact Jdt A _ _ i (by simp [Jc1]) (Z8 B _ i (fun q hq hqi => h p hp q hq (by omega))).symm
 ·have hA' : ∀ p ∈ A, p.1 ≠ i := fun p hp hpi => hA ⟨p, hp, hpi⟩
  rw [Z8 A _ i hA']
  exact Jdt B _ _ i (by simp [Jc1]) (Z8 A _ i hA')
def Vk (S : Nat → Bool) (k : Nat) : Nat → Bool := fun i => if i = k then true else S i
def Jdc (val : Nat → Value) (k : Nat) (v : Value) : Nat → Value := fun i => if i = k then v else val i
theorem Jgl (S : Nat → Bool) (val : Nat → Value) (k : Nat) (v : Value) : ∀ j, j ≤ k → EL P l sp e0 L0 (Vk S k) (Jdc val k v) j = EL P l sp e0 L0 S val j := by
 intro j
 induction j with
 | zero => intro _; rfl
 | succ j ih =>
  intro hj
  have hjk : j ≠ k := by omega
  simp only [EL, ih (by omega), Vk, Jdc, hjk, if_false]
theorem EL_step (ok : Ok n l sp) {S : Nat → Bool} {val : Nat → Value} (hS : Sc l S) {k : Nat} (hSk : S k = false) (v : Value) :
  ∀ j, k + 1 ≤ j → j ≤ l.length → EL P l sp e0 L0 (Vk S k) (Jdc val k v) j =
   (Jcn (EL P l sp e0 L0 S val j).1 (od l k).dst v, if want l.toArray (od l k) (EL P l sp e0 L0 S val k).1 = true then Xv (EL P l sp e0 L0 S val j).2 ((sd sp k).T (EL P l sp e0 L0 S val k).1 (Ja0 (EL P l sp e0 L0 S val k).2) v) else (EL P l sp e0 L0 S val j).2) := by
 intro j hj
 obtain ⟨d, rfl⟩ := Nat.exists_eq_add_of_le hj
 clear hj
 induction d with
 | zero =>
  intro _
  have h1 : EL P l sp e0 L0 (Vk S k) (Jdc val k v) (k + 1) = _ := rfl
  rw [h1]
  simp only [EL, Jgl S val k v k (Nat.le_refl _), Vk, Jdc, if_true, hSk]
  rfl
 | succ d ih =>
  intro hjl
  have ih := ih (by omega)
  rw [show k + 1 + (d + 1) = (k + 1 + d) + 1 from rfl] at *
  generalize hjd : k + 1 + d = j at *
  have hjk : j ≠ k := by omega
  by_cases hSj : S j = true
  ·have hnc : ¬ Jbz l.toArray (od l k) (od l j) (sd sp k) (sd sp j) = true := fun hc => by
    have := Uc ok hS (by omega) (hS j (by omega) hSj) (ok.ord j k (by omega) (by omega) hc)
    rw [hSk] at this; cases this
   have e1 : ∀ t ∈ (od l j).looksAt l.toArray, Jcn (EL P l sp e0 L0 S val j).1 (od l k).dst v t = (EL P l sp e0 L0 S val j).1 t :=
    fun t ht => Jab _ (fun hd => hnc (Jg4 hd ht))
   have e2 : ∀ r, r ∈ (sd sp j).rds ∨ r ∈ (sd sp j).wrs → (if want l.toArray (od l k) (EL P l sp e0 L0 S val k).1 = true then Xv (EL P l sp e0 L0 S val j).2 ((sd sp k).T (EL P l sp e0 L0 S val k).1 (Ja0 (EL P l sp e0 L0 S val k).2) v) else (EL P l sp e0 L0 S val j).2)[r]? = (EL P l sp e0 L0 S val j).2[r]? := by
    intro r hr
    split
    ·exact Z8 _ _ r (fun p hp hpr => hnc (Jfg (by rw [← hpr]; exact T_in _ _ _ _ p hp) hr))
    ·rfl
   have hT := T_loc (sd sp j) (e := Jcn (EL P l sp e0 L0 S val j).1 (od l k).dst v) (e' := (EL P l sp e0 L0 S val j).1)
    (lk := Ja0 (if want l.toArray (od l k) (EL P l sp e0 L0 S val k).1 = true then Xv (EL P l sp e0 L0 S val j).2 ((sd sp k).T (EL P l sp e0 L0 S val k).1 (Ja0 (EL P l sp e0 L0 S val k).2) v) else (EL P l sp e0 L0 S val j).2)) (lk' := Ja0 (EL P l sp e0 L0 S val j).2)
    (fun t ht => e1 t (ok.rs j t (by omega) ht)) (fun i hi => e2 i (.inl hi)) (val j)
   have hw := Jcf (ops := l.toArray) e1
   have h1 : EL P l sp e0 L0 (Vk S k) (Jdc val k v) (j + 1) = (Jcn (EL P l sp e0 L0 (Vk S k) (Jdc val k v) j).1 (od l j).dst (val j), if want l.toArray (od l j) (EL P l sp e0 L0 (Vk S k) (Jdc val k v) j).1 = true then Xv (EL P l sp e0 L0 (Vk S k) (Jdc val k v) j).2 ((sd sp j).T (EL P l sp e0 L0 (Vk S k) (Jdc val k v) j).1 (Ja0 (EL P l sp e0 L0 (Vk S k) (Jdc val k v) j).2) (val j)) else (EL P l sp e0 L0 (Vk S k) (Jdc val k v) j).2) := by
    simp [EL, Vk, Jdc, hjk, hSj]
   have h2 : EL P l sp e0 L0 S val (j + 1) = (Jcn (EL P l sp e0 L0 S val j).1 (od l j).dst (val j), if want l.toArray (od l j) (EL P l sp e0 L0 S val j).1 = true then Xv (EL P l sp e0 L0 S val j).2 ((sd sp j).T (EL P l sp e0 L0 S val j).1 (Ja0 (EL P l sp e0 L0 S val j).2) (val j)) else (EL P l sp e0 L0 S val j).2) := by
    simp [EL, hSj]
   rw [h1, h2, ih]
   simp only
   rw [hw, hT]
   refine Prod.ext ?_ ?_
   ·exact putD_comm (fun t ht1 ht2 => hnc (clash_dd ht1 ht2))
   ·show (if _ then _ else _) = (if _ then _ else _)
    by_cases hwj : want l.toArray (od l j) (EL P l sp e0 L0 S val j).1 = true <;> by_cases hwk : want l.toArray (od l k) (EL P l sp e0 L0 S val k).1 = true
    ·simp only [hwj, hwk, if_true]
     exact setAll_comm _ _ _ (fun p hp q hq hpq => hnc (Jfg (T_in _ _ _ _ p hp) (.inr (by rw [hpq]; exact T_in _ _ _ _ q hq))))
    ·simp only [hwj, hwk, if_true]; rfl
    ·simp only [hwj, hwk, if_true]; rfl
    ·simp only [hwj, hwk]; rfl
  ·have h1 : EL P l sp e0 L0 (Vk S k) (Jdc val k v) (j + 1) = EL P l sp e0 L0 (Vk S k) (Jdc val k v) j := by
    simp [EL, Vk, hjk, hSj]
   have h2 : EL P l sp e0 L0 S val (j + 1) = EL P l sp e0 L0 S val j := by simp [EL, hSj]
   rw [h1, h2, ih]
def Qs (listed : Array Bool) : Nat → Bool := fun k => listed.getD k false
theorem cons_step (ok : Ok n l sp) {S : Nat → Bool} {val : Nat → Value} (hS : Sc l S) {k : Nat} (hk : k < l.length) (hSk : S k = false) (hc : Cons P l sp e0 L0 S val l.length) {v : Value}
  (hv : if want l.toArray (od l k) (EL P l sp e0 L0 S val k).1 = true then (sd sp k).V P (od l k) (EL P l sp e0 L0 S val k).1 (Ja0 (EL P l sp e0 L0 S val k).2) v else v = undef) :
  Cons P l sp e0 L0 (Vk S k) (Jdc val k v) l.length := by
 intro j hj hSj
 by_cases hjk : j = k
 ·subst hjk
  rw [Jgl S val j v j (Nat.le_refl _)]
  simpa [Jdc] using hv
 ·have hSj' : S j = true := by simpa [Vk, hjk] using hSj
  have hcj := hc j hj hSj'
  have hval : Jdc val k v j = val j := by simp [Jdc, hjk]
  rw [hval]
  by_cases hlt : j < k
  ·rw [Jgl S val k v j (by omega)]
   exact hcj
  ·have hkj : k < j := by omega
   have hnc : ¬ Jbz l.toArray (od l k) (od l j) (sd sp k) (sd sp j) = true := fun hh => by
    have := Uc ok hS hj (hS j hj hSj') (ok.ord j k hj hkj hh)
    rw [hSk] at this; cases this
   rw [EL_step ok hS hSk v j (by omega) (by omega)]
   have e1 : ∀ t ∈ (od l j).looksAt l.toArray, Jcn (EL P l sp e0 L0 S val j).1 (od l k).dst v t = (EL P l sp e0 L0 S val j).1 t :=
    fun t ht => Jab _ (fun hd => hnc (Jg4 hd ht))
   have e2 : ∀ r, r ∈ (sd sp j).rds ∨ r ∈ (sd sp j).wrs → (if want l.toArray (od l k) (EL P l sp e0 L0 S val k).1 = true then Xv (EL P l sp e0 L0 S val j).2 ((sd sp k).T (EL P l sp e0 L0 S val k).1 (Ja0 (EL P l sp e0 L0 S val k).2) v) else (EL P l sp e0 L0 S val j).2)[r]? = (EL P l sp e0 L0 S val j).2[r]? := by
    intro r hr
    split
    ·exact Z8 _ _ r (fun p hp hpr => hnc (Jfg (by rw [← hpr]; exact T_in _ _ _ _ p hp) hr))
    ·rfl
   simp only
   rw [Jcf (ops := l.toArray) e1]
   split
   ·rename_i hw
    rw [if_pos hw] at hcj
    rw [V_locL (L' := (EL P l sp e0 L0 S val j).2) (sd sp j) (Region.noSelect_spec ok.nosel j _ · · (by simp [od, List.getD_eq_getElem?_getD, List.getElem?_eq_getElem hj])) (ops := l.toArray) e1 (fun t ht => e1 t (ok.rs j t hj ht)) (fun i hi => e2 i (.inl hi))]
    exact hcj
   ·rename_i hw
    rw [if_neg hw] at hcj
    exact hcj
theorem ready_mem {md : Region.Mode} {ops : Array Oper} {listed : Array Bool} {k : Nat} (h : k ∈ Region.ready md ops listed) :
  k < ops.size ∧ listed.getD k true = false ∧ ∃ o, ops[k]? = some o ∧ ∀ x ∈ o.after.toList, Region.binds md x = true → listed.getD x.on false = true := by
 unfold Region.ready at h
 rw [List.mem_filter] at h
 obtain ⟨h1, h2⟩ := h
 rw [List.mem_range] at h1
 simp only [Bool.and_eq_true, Bool.not_eq_true'] at h2
 obtain ⟨h2, h3⟩ := h2
 refine ⟨h1, h2, ops[k], Array.getElem?_eq_getElem h1, fun x hx hb => ?_⟩
 rw [Array.getElem?_eq_getElem h1] at h3
 simp only [Option.map_some, Option.getD_some] at h3
 have := Array.all_eq_true_iff_forall_mem.1 h3 x (by simpa using hx)
 simpa [hb] using this
theorem any_of (ok : Ok n l sp) (h : Sq P cx l.toArray (fun e L => At cx (Q .normal) e L) l sp e0 L0) : ∀ (fuel : Nat) (listed : Array Bool) (a : Act) (w : World) (val : Nat → Value), listed.size = l.length →
  Sc l (Qs listed) → Cons P l sp e0 L0 (Qs listed) val l.length →
  ((List.range l.length).filter fun k => !Qs listed k).length ≤ fuel →
  Sim n a (EL P l sp e0 L0 (Qs listed) val l.length).1 → Fr cx w → Sat cx w (EL P l sp e0 L0 (Qs listed) val l.length).2 →
  wpAny P .any l.toArray (lift n Q) fuel listed a w := by
 have final : ∀ (listed : Array Bool) (a : Act) (w : World) (val : Nat → Value), (∀ k, k < l.length → Qs listed k = true) → Cons P l sp e0 L0 (Qs listed) val l.length →
   Sim n a (EL P l sp e0 L0 (Qs listed) val l.length).1 → Fr cx w → Sat cx w (EL P l sp e0 L0 (Qs listed) val l.length).2 → lift n Q .normal a w := by
  intro listed a w val hall hc hs hF hS
  have he : ∀ k, k ≤ l.length → EL P l sp e0 L0 (Qs listed) val k = EL P l sp e0 L0 full val k := by
   intro k
   induction k with
   | zero => intro _; rfl
   | succ k ih => intro hk; simp only [EL, ih (by omega), hall k (by omega), full]
  have hcf : Cons P l sp e0 L0 full val l.length := fun j hj hf => by
   have := hc j hj (hall j hj)
   rwa [he j (by omega)] at this
  have h0 := sq_at ok h l.length (Nat.le_refl _) val hcf
  rw [List.drop_length, ok.len, List.drop_length, ← ok.len] at h0
  cases h0 with
  | nil hh =>
   rw [← he _ (Nat.le_refl _)] at hh
   exact ⟨_, hs, hh.out w hF hS⟩
 have ready_all : ∀ (listed : Array Bool), listed.size = l.length → Region.ready .any l.toArray listed = [] → ∀ k, k < l.length → Qs listed k = true := by
  intro listed hsz hr k
  induction k using Nat.strongRecOn with
  | _ k ih =>
   intro hk
   rcases Bool.eq_false_or_eq_true (Qs listed k) with hh | hh
   ·exact hh
   ·exfalso
    have : k ∈ Region.ready .any l.toArray listed := by
     unfold Region.ready
     rw [List.mem_filter]
     refine ⟨by simpa using hk, ?_⟩
     have hg : listed.getD k true = false := by
      have hh' : listed.getD k false = false := hh
      rw [Array.getD_eq_getD_getElem?, Array.getElem?_eq_getElem (by omega)] at hh' ⊢
      simpa using hh'
     have hok : l.toArray[k]? = some (od l k) := by simp [od, List.getD_eq_getElem?_getD, List.getElem?_eq_getElem hk]
     simp only [hg, Bool.not_false, Bool.true_and, hok, Option.map_some, Option.getD_some]
     rw [Array.all_eq_true_iff_forall_mem]
     intro x hx
     by_cases hb : Region.binds .any x = true
     ·have hlt := ok.back k x hk (by simpa using hx) hb
      have := ih x.on hlt (by omega)
      simp only [hb, Bool.not_true, Bool.false_or]
      exact this
     ·simp only [Bool.not_eq_true] at hb
      simp [hb]
    rw [hr] at this
    cases this
 intro fuel
 induction fuel with
 | zero =>
  intro listed a w val hsz hSc hc hcount hs hF hS
  have hall : ∀ k, k < l.length → Qs listed k = true := by
   intro k hk
   have h0 : (List.range l.length).filter (fun k => !Qs listed k) = [] := List.eq_nil_of_length_eq_zero (by omega)
   rw [List.filter_eq_nil_iff] at h0
   simpa using h0 k (by simpa using hk)
  refine ⟨?_, final listed a w val hall hc hs hF hS⟩
  cases hr : Region.ready .any l.toArray listed with
  | nil => rfl
  | cons x xs =>
   exfalso
   obtain ⟨h1, h2, _⟩ := ready_mem (md := .any) (ops := l.toArray) (listed := listed) (k := x) (by rw [hr]; simp)
   have h1' : x < l.length := by simpa using h1
   have := hall x h1'
   unfold Qs at this
   rw [Array.getD_eq_getD_getElem?, Array.getElem?_eq_getElem (by omega)] at this h2
   simp at this h2
   rw [this] at h2
   cases h2
 | succ fuel ih =>
  intro listed a w val hsz hSc hc hcount hs hF hS
  refine ⟨fun hr => final listed a w val (ready_all listed hsz hr) hc hs hF hS, fun k hk => ?_⟩
  obtain ⟨h1, h2, o, ho, hafter⟩ := ready_mem hk
  have hkl : k < l.length := by simpa using h1
  have hoe : o = od l k := by
   have : l[k]? = some o := by simpa using ho
   simp [od, List.getD_eq_getElem?_getD, this]
  subst hoe
  have hSk : Qs listed k = false := by
   unfold Qs
   rw [Array.getD_eq_getD_getElem?, Array.getElem?_eq_getElem (by omega)] at h2 ⊢
   simpa using h2
  have hclk : Jft l (fun i => Qs listed i = true) k := fun x hx hb => hafter x hx hb
  obtain ⟨val', hv, hcf⟩ := fill ok h hSc hc k (by omega)
  have h0 := sq_at ok h k (by omega) val' hcf
  rw [drop_od hkl, drop_sd (by have := ok.len; omega)] at h0
  obtain ⟨a1, a2⟩ := agree_all (P := P) (e0 := e0) (L0 := L0) ok (S' := full) (val' := val') hSc (fun _ _ => rfl) (fun i hi => (hv i hi).symm) k hkl hclk
  obtain ⟨b1, b2⟩ := tail_agree (P := P) (e0 := e0) (L0 := L0) (val := val) ok hSc hSk l.length (by omega) (Nat.le_refl _)
  have hsel : ∀ cs b, (od l k).op ≠ .select cs b := (Region.noSelect_spec ok.nosel k _ · · (by simpa using ho))
  have hSn : Qs (listed.setIfInBounds k true) = Vk (Qs listed) k := by
   funext i
   unfold Qs Vk
   simp only [Array.getD_eq_getD_getElem?, Array.getElem?_setIfInBounds]
   by_cases hik : i = k
   ·subst hik; simp [show i < listed.size by omega]
   ·have : ¬ k = i := fun e => hik e.symm
    simp [hik, this]
  have hScn : Sc l (Vk (Qs listed) k) := by
   intro j hj hSj x hx hb
   by_cases hjk : j = k
   ·subst hjk
    have := hclk x hx hb
    simp only [Vk]
    split
    ·rfl
    ·exact this
   ·have hSj' : Qs listed j = true := by simpa [Vk, hjk] using hSj
    have := hSc j hj hSj' x hx hb
    simp only [Vk]
    split
    ·rfl
    ·exact this
  have hcnt : ((List.range l.length).filter fun i => !Vk (Qs listed) k i).length ≤ fuel := by
   have hsub : ((List.range l.length).filter fun i => !Vk (Qs listed) k i).length < ((List.range l.length).filter fun i => !Qs listed i).length := by
    have e1 : (List.range l.length).filter (fun i => !Vk (Qs listed) k i) = ((List.range l.length).filter fun i => !Qs listed i).filter fun i => decide (i ≠ k) := by
     rw [List.filter_filter]
     apply List.filter_congr
     intro i _
     unfold Vk
     by_cases hik : i = k <;> simp [hik]
    rw [e1]
    refine List.length_filter_lt_length_iff_exists.2 ⟨k, ?_, by simp⟩
    rw [List.mem_filter]
    exact ⟨by simpa using hkl, by simp [hSk]⟩
   omega
  have hwa : want l.toArray (od l k) (EL P l sp e0 L0 (Qs listed) val l.length).1 = want l.toArray (od l k) (EL P l sp e0 L0 full val' k).1 := (Jcf b1).trans (Jcf a1)
  have hwk : want l.toArray (od l k) (EL P l sp e0 L0 (Qs listed) val k).1 = want l.toArray (od l k) (EL P l sp e0 L0 full val' k).1 := Jcf a1
  have next : ∀ (v : Value) (a' : Act) (w' : World), (if want l.toArray (od l k) (EL P l sp e0 L0 full val' k).1 = true then (sd sp k).V P (od l k) (EL P l sp e0 L0 full val' k).1 (Ja0 (EL P l sp e0 L0 full val' k).2) v else v = undef) →
    Sim n a' (Jcn (EL P l sp e0 L0 (Qs listed) val l.length).1 (od l k).dst v) → Fr cx w' →
    Sat cx w' (if want l.toArray (od l k) (EL P l sp e0 L0 full val' k).1 = true then Xv (EL P l sp e0 L0 (Qs listed) val l.length).2 ((sd sp k).T (EL P l sp e0 L0 full val' k).1 (Ja0 (EL P l sp e0 L0 full val' k).2) v) else (EL P l sp e0 L0 (Qs listed) val l.length).2) →
    wpAny P .any l.toArray (lift n Q) fuel (listed.setIfInBounds k true) a' w' := by
   intro v a' w' hvv hs' hF' hS'
   have hstep := EL_step (P := P) (e0 := e0) (L0 := L0) ok hSc hSk v (val := val) l.length (by omega) (Nat.le_refl _)
   have hT : (sd sp k).T (EL P l sp e0 L0 (Qs listed) val k).1 (Ja0 (EL P l sp e0 L0 (Qs listed) val k).2) v = (sd sp k).T (EL P l sp e0 L0 full val' k).1 (Ja0 (EL P l sp e0 L0 full val' k).2) v :=
    T_loc _ (fun t ht => a1 t (ok.rs k t hkl ht)) (fun i hi => a2 i (.inl hi)) v
   refine ih (listed.setIfInBounds k true) a' w' (Jdc val k v) (by simpa using hsz) (by rw [hSn]; exact hScn) ?_ (by rw [hSn]; exact hcnt) ?_ hF' ?_
   ·rw [hSn]
    refine cons_step ok hSc hkl hSk hc ?_
    rw [hwk]
    split
    ·rename_i hw
     rw [if_pos hw] at hvv
     rw [V_locL (L' := (EL P l sp e0 L0 full val' k).2) (sd sp k) hsel (ops := l.toArray) a1 (fun t ht => a1 t (ok.rs k t hkl ht)) (fun i hi => a2 i (.inl hi))]
     exact hvv
    ·rename_i hw
     rw [if_neg hw] at hvv
     exact hvv
   ·rw [hSn, hstep]; exact hs'
   ·rw [hSn, hstep]
    simp only
    rw [hwk, hT]
    exact hS'
  unfold wpOp
  rw [ho]
  simp only
  rw [Jdp hs, hwa]
  cases h0 with
  | pass hw h3 =>
   rw [hw]
   simp only [Bool.false_eq_true, if_false]
   refine next undef _ w (by rw [if_neg (by rw [hw]; simp)]) ?_ hF (by rw [if_neg (by rw [hw]; simp)]; exact hS)
   cases hd : (od l k).dst with
   | none => exact hs
   | some d => exact hs.put (ok.dst k d hkl hd) undef
  | take hw hi hl h3 =>
   rw [hw, if_pos rfl]
   refine .inl ?_
   have hr := hl.out w _ hF hS (by rw [Jd3, Jd3]) (fun i hi => (b2 i hi).trans (a2 i hi))
   have hev : execOp (ev (EL P l sp e0 L0 full val' k).1) (od l k) = execOp (ev (EL P l sp e0 L0 (Qs listed) val l.length).1) (od l k) :=
    ev_loc hsel (ops := l.toArray) (fun t ht => ((b1 t ht).trans (a1 t ht)).symm)
   unfold RunsTo at hr
   rw [hev] at hr
   unfold Oper.wp
   rw [hs.ev]
   have put : ∀ v : Value, Sim n (a.put (od l k).dst v) (Jcn (EL P l sp e0 L0 (Qs listed) val l.length).1 (od l k).dst v) := by
    intro v
    cases hd : (od l k).dst with
    | none => exact hs
    | some d => exact hs.put (ok.dst k d hkl hd) v
   have go : ∀ v w', (sd sp k).V P (od l k) (EL P l sp e0 L0 full val' k).1 (Ja0 (EL P l sp e0 L0 full val' k).2) v ∧ Fr cx w' ∧ Sat cx w' (Xv (EL P l sp e0 L0 (Qs listed) val l.length).2 ((sd sp k).T (EL P l sp e0 L0 full val' k).1 (Ja0 (EL P l sp e0 L0 full val' k).2) v)) →
     wpAny P .any l.toArray (lift n Q) fuel (listed.setIfInBounds k true) (a.put (od l k).dst v) w' :=
    fun v w' ⟨g1, g2, g3⟩ => next v _ w' (by rw [if_pos hw]; exact g1) (put v) g2 (by rw [if_pos hw]; exact g3)
   generalize (execOp (ev (EL P l sp e0 L0 (Qs listed) val l.length).1) (od l k)).run P w = r at *
   cases r with
   | halt x w' => exact hr.elim
   | ok nx w' =>
    cases nx with
    | value v => exact go v w' hr
    | skip => exact go undef w' hr
    | enter f args =>
     show Calls P f args w' _
     refine Calls.mono hr ?_
     rintro en w'' ⟨v, rfl, hk'⟩
     exact go v w'' hk'
    | _ => exact hr.elim
theorem EL_none (S : Nat → Bool) (h : ∀ k, S k = false) (val : Nat → Value) : ∀ k, EL P l sp e0 L0 S val k = (e0, L0) := by
 intro k
 induction k with
 | zero => rfl
 | succ k ih => simp only [EL, h k]; exact ih
end sound
def empC : Chunk := ⟨fun S _ => ∀ b, ¬ S b, fun _ _ _ _ h => h⟩
theorem Sat.emp {cx : Cx} {w : World} {L : List Chunk} (h : Sat cx w L) (hF : Fr cx w) : Sat cx w (L ++ [empC]) :=
 h.snoc hF (Grow.refl w) (S := fun _ => False) (fun _ h => h) (fun _ h => h.elim)
theorem Sat.pad {cx : Cx} {w : World} (hF : Fr cx w) : ∀ (k : Nat) {L : List Chunk}, Sat cx w L → Sat cx w (L ++ List.replicate k empC)
 | 0, L, h => by simpa using h
 | k + 1, L, h => by
  have := Sat.pad hF k (h.emp hF)
  rwa [List.append_assoc, List.singleton_append, ← List.replicate_succ] at this
theorem Xp {P : Program} {n : Nat} {cx : Cx} {Q : Va} {e : Q6} {L : List Chunk} {id : Nat} {l : List Oper} (sp : List Kd) (k : Nat) (hm : P.follows .mixedOrders = true)
  (h : Sq P cx l.toArray (fun e L => At cx (Q .normal) e L) l sp e (L ++ List.replicate k empC)) (hB : checkD n l sp = true) : At cx (WC P n (.region id l.toArray true) Q) e L :=
 ⟨fun w hF hS => ⟨fun a ha => by
  have ok := ok_of hB
  have hno : ∀ i, Qs (Array.replicate l.toArray.size false) i = false := by
   intro i
   simp only [Qs, Array.getD_eq_getD_getElem?, Array.getElem?_replicate]
   split <;> rfl
  refine wp_region_any hm (any_of ok h l.toArray.size (Array.replicate l.toArray.size false) a _ (fun _ => undef) (by simp) (fun k _ hk => by rw [hno k] at hk; cases hk) (fun j _ hj => by rw [hno j] at hj; cases hj) ?_ ?_ ⟨hF.os, hF.tape, hF.output, hF.size, hF.block⟩ ?_)
  ·exact Nat.le_trans (List.length_filter_le _ _) (by simp)
  ·rw [EL_none _ hno]; exact ha
  ·rw [EL_none _ hno]
   have hg : Grow w { w with drawn := w.drawn + 1 } := ⟨rfl, rfl, rfl, Nat.le_refl _, fun _ _ => rfl⟩
   exact (hS.pad hF k).grow hg⟩⟩
end Go.Vc

/- The rules for single operations of a region that draws its order. Conditions: none. -/
namespace Go.Vc
open Go
def boxOf (v : Value) (cs : List Value) (T : TypeId) : Chunk :=
 match v with
 | .pointer (some a) => Jp a.block cs T
 | .slice (some a) _ _ => Jp a.block cs T
 | _ => empC
def Kd.ns (i : Nat) (cs : List Value) (T m : Nat) : Kd := .g [] [] [i] (fun _ _ v => ∃ b, v = .slice (some ⟨b, 0, none⟩) m m) (fun _ _ v => [boxOf v cs T])
def Kd.st (a i : Nat) (cs : List Value) (T : TypeId) : Kd := .g [a] [i] [i] (fun _ _ v => v = undef) (fun vs _ _ => [boxOf (vs.headD undef) cs T])
section rules
variable {P : Program} {n : Nat} {cx : Cx} {Q : Va} {e : Q6} {L : List Chunk} {ops : Array Oper} {F : Q6 → List Chunk → Prop} {rest : List Oper} {ss : List Kd}
theorem d_pass {o : Oper} {s : Kd} {d : Nat} (hw : want ops o e = false) (hd : o.dst = some d) (k : Sq P cx ops F rest ss (upd e d undef) L) : Sq P cx ops F (o :: rest) (s :: ss) e L :=
 .pass hw (by rw [hd]; exact k)
theorem W6 {o : Oper} {d : Nat} {v : Value} (hw : want ops o e = true) (hd : o.dst = some d) (hr : ∀ w, (execOp (ev e) o).run P w = .ok (.value v) w)
  (k : Sq P cx ops F rest ss (upd e d v) L) : Sq P cx ops F (o :: rest) (.p :: ss) e L := by
 refine .take hw ⟨v, hr⟩ ⟨fun w L' hF hS _ _ => ?_⟩ fun v' hv' => ?_
 ·unfold RunsTo
  rw [hr]
  exact ⟨hr, hF, hS⟩
 ·have h1 := hv' default
  rw [hr] at h1
  have : v = v' := by simpa using h1
  subst this
  rw [hd]
  exact k
theorem d_det {o : Oper} {d : Nat} {v : Value} {rds : List Nat} (hw : want ops o e = true) (hd : o.dst = some d)
  (h : ∀ w L', Fr cx w → Sat cx w L' → (∀ i ∈ rds, L'[i]? = L[i]?) → RunsTo P (ev e) o w fun v' w' => v' = v ∧ Grow w w')
  (k : Sq P cx ops F rest ss (upd e d v) L) : Sq P cx ops F (o :: rest) (.d rds v :: ss) e L := by
 refine .take hw ⟨v, rfl⟩ ⟨fun w L' hF hS _ hi => ?_⟩ fun v' hv' => ?_
 ·refine (h w L' hF hS fun i hm => hi i (.inl hm)).mono fun v' w' ⟨h1, h2⟩ => ?_
  exact ⟨h1, hF.grow h2, hS.grow h2⟩
 ·have : v' = v := hv'
  subst this
  rw [hd]
  exact k
variable {d : Nat} {ty : TypeId} {pos : String} {af : Array Edge} {g : Option (Nat × Bool)}
theorem d_load1 {i : Nat} {T T0 b o : Nat} {A : Operand} {cs : List Value} {v : Value} (hA : ∀ w, (isAgg T).run P w = .ok false w)
  (hw : want ops ⟨some d, .load T A, ty, pos, af, g⟩ e = true) (hp : ev e A = .pointer (some ⟨b, o, none⟩)) (hL : L[i]? = some (Jp b cs T0)) (hv : rg cs o = some v)
  (k : Sq P cx ops F rest ss (upd e d v) L) : Sq P cx ops F (⟨some d, .load T A, ty, pos, af, g⟩ :: rest) (.d [i] v :: ss) e L :=
 d_det hw rfl (fun w L' hF hS hi => by
  have hc := Jdj (o := o) (Y6 hS ((hi i (by simp)).trans hL))
  rw [← rg_eq, hv] at hc
  unfold RunsTo
  have : (execOp (ev e) ⟨some d, .load T A, ty, pos, af, g⟩).run P w = .ok (.value v) w := by
   simp [execOp, Instr.loadAt, Instr.sureAddr, hp, U7 hA hc]
  rw [this]
  exact ⟨rfl, Grow.refl w⟩) k
theorem d_loadN {i : Nat} {T T0 b o sz : Nat} {A : Operand} {cs vs : List Value} (hA : ∀ w, (isAgg T).run P w = .ok true w) (hs : ∀ w, (sizeOf T).run P w = .ok sz w)
  (hw : want ops ⟨some d, .load T A, ty, pos, af, g⟩ e = true) (hp : ev e A = .pointer (some ⟨b, o, none⟩)) (hL : L[i]? = some (Jp b cs T0)) (hv : rd cs o sz = some vs)
  (k : Sq P cx ops F rest ss (upd e d (.agg vs.toArray)) L) : Sq P cx ops F (⟨some d, .load T A, ty, pos, af, g⟩ :: rest) (.d [i] (.agg vs.toArray) :: ss) e L :=
 d_det hw rfl (fun w L' hF hS hi => by
  obtain ⟨h1, h2⟩ := rd_get hv
  have hr := Wj (P := P) (w := w) (b := b) (o := o) hA hs h1 (fun j v hj => by rw [Jdj (Y6 hS ((hi i (by simp)).trans hL))]; exact h2 j v hj)
  unfold RunsTo
  have : (execOp (ev e) ⟨some d, .load T A, ty, pos, af, g⟩).run P w = .ok (.value (.agg vs.toArray)) w := by
   simp [execOp, Instr.loadAt, Instr.sureAddr, hp, hr]
  rw [this]
  exact ⟨rfl, Grow.refl w⟩) k
theorem d_call {f : FuncId} {A : Array Operand} {tys : Array TypeId} {args : List Value} {v : Value} (h : Ret P f args v) (hc : ∀ args w, (callFunc f args).run P w = .ok (.enter f args) w)
  (hw : want ops ⟨some d, .call ⟨.value (.func f), A, tys⟩, ty, pos, af, g⟩ e = true) (ha : A.toList.map (ev e) = args)
  (k : Sq P cx ops F rest ss (upd e d v) L) : Sq P cx ops F (⟨some d, .call ⟨.value (.func f), A, tys⟩, ty, pos, af, g⟩ :: rest) (.d [] v :: ss) e L :=
 d_det hw rfl (fun w L' _ _ _ => by
  unfold RunsTo
  rw [Jc4 hc ha]
  exact h w) k
theorem Jfx {o : Oper} {i m : Nat} {T : TypeId} {cs : List Value} (hw : want ops o e = true) (hd : o.dst = some d)
  (hr : ∀ w, (execOp (ev e) o).run P w = .ok (.value (.slice (some ⟨w.heap.size, 0, none⟩) m m)) (w.alloc (.cells cs.toArray T))) (hL : L[i]? = some empC)
  (k : ∀ b, Sq P cx ops F rest ss (upd e d (.slice (some ⟨b, 0, none⟩) m m)) (L.set i (Jp b cs T))) : Sq P cx ops F (o :: rest) (.ns i cs T m :: ss) e L := by
 refine .take hw ⟨.slice (some ⟨0, 0, none⟩) m m, 0, rfl⟩ ⟨fun w L' hF hS _ hi => ?_⟩ fun v' hv' => ?_
 ·unfold RunsTo
  rw [hr]
  refine ⟨⟨_, rfl⟩, hF.grow (Jad w _), ?_⟩
  refine hS.set hF ((hi i (.inr (by simp [Kd.ns, Kd.wrs]))).trans hL) (by simp) fun S _ hSo => ⟨fun x => x = w.heap.size, ⟨fun _ => Iff.rfl, heap_alloc_new w _⟩, fun b hb => ?_, fun b hb _ => (by first | exact heap_alloc_old w _ b hb | exact heap_alloc_old w _ hb)⟩
  subst hb
  exact ⟨by simp, .inr (Nat.le_refl _)⟩
 ·obtain ⟨b, rfl⟩ : ∃ b, v' = .slice (some ⟨b, 0, none⟩) m m := hv'
  rw [hd]
  exact k b
theorem run_store {T T0 b o sz : Nat} {A X : Operand} {x : Value} {cs cs' vs : List Value} {w : World} (hs : ∀ w, (sizeOf T).run P w = .ok sz w) (hp : ev e A = .pointer (some ⟨b, o, none⟩)) (hx : ev e X = x) (hc : x.cells.toList = vs) (hsz : vs.length = sz)
  (hpos : Nat.blt 0 sz = true) (hone : vs.all Value.oneCell' = true) (hv : wr cs o vs = some cs') (hb : w.heap[b]? = some (.cells cs.toArray T0 (0, 0))) :
  (execOp (ev e) ⟨none, .store T A X, ty, pos, af, g⟩).run P w = .ok .skip (w.setRow b cs'.toArray) := by
 have hpos' : 0 < vs.length := by rw [hsz]; simpa using hpos
 obtain ⟨h1, h2⟩ := wr_eq hv hpos'
 have hst := run_storeCells_at P b o T0 vs 0 cs.toArray w hb (by simpa using h1) (by simpa using hone)
 have hsz' : x.cells.size = sz := by rw [← hsz, ← hc]; simp
 simp only [Nat.add_zero, List.append_assoc] at hst
 simp only [execOp, Instr.storeAt, Instr.sureAddr, storeVar, hp, hx, Sem.run_bind, Sem.run_pure, Result.andThen_ok, hs, hsz', ne_eq, not_true_eq_false, if_false, hc, hst]
 rw [h2]; simp
theorem Wk (h : F e L) : Sq P cx ops F [] [] e L := .nil h
theorem Jfu {os : List Oper} {b : Bool} (ht : b = true → Sq P cx ops F os ss (upd e d (.bool true)) L) (hf : b = false → Sq P cx ops F os ss (upd e d (.bool false)) L) : Sq P cx ops F os ss (upd e d (.bool b)) L := by
 cases b
 ·exact hf rfl
 ·exact ht rfl
end rules
end Go.Vc

/- Slices, loops with what they leave alone, and calls whose contracts read memory. Conditions: none. -/
namespace Go.Vc
open Go
section rules
variable {P : Program} {n : Nat} {cx : Cx} {Q : Va} {e : Q6} {L : List Chunk} {ops : Array Oper} {rest : List Oper} {F : Q6 → List Chunk → Prop} {ss : List Kd}
variable {ty : TypeId} {pos : String} {af : Array Edge} {g : Option (Nat × Bool)}
theorem r_decT {o : Oper} {p : Prop} [Decidable p] (h : ∀ w, (execOp (ev e) o).run P w = .ok (.value (.bool (decide p))) w) (hp : p) (w : World) : (execOp (ev e) o).run P w = .ok (.value (.bool true)) w := by
 rw [h, decide_eq_true hp]
theorem r_decF {o : Oper} {p : Prop} [Decidable p] (h : ∀ w, (execOp (ev e) o).run P w = .ok (.value (.bool (decide p))) w) (hp : ¬ p) (w : World) : (execOp (ev e) o).run P w = .ok (.value (.bool false)) w := by
 rw [h, decide_eq_false hp]
theorem r_neqA {d : Option Nat} {t t' : TypeId} {X Y : Operand} {xs ys : Array Value} {b : Bool} (hg : P.eqGuardType P.depth t = false) (heq : ∀ w, (Op.equalIn Op.maxDepth t (.agg xs) (.agg ys)).run P w = .ok b w)
  (hx : ev e X = .agg xs) (hy : ev e Y = .agg ys) (w : World) :
  (execOp (ev e) ⟨d, .binOp .neq t X Y t', ty, pos, af, g⟩).run P w = .ok (.value (.bool (!b))) w := by
 simp [execOp, hx, hy, eqGuard, binOp, Op.equal, heq, hg]
structure WR (P : Program) (n : Nat) (m : Nat) (c : Code) (Q : Va) (e : Q6) (w : World) : Prop where
 out : ∀ a, Sim n a e → Code.rounds P c (lift n Q) m a w
def Keeps (M : List Nat) (e e' : Q6) : Prop := ∀ t, (M.any fun x => Nat.beq x t) = false → e' t = e t
theorem Keeps.refl (M : List Nat) (e : Q6) : Keeps M e e := fun _ _ => rfl
theorem Keeps.upd {M : List Nat} {e e' : Q6} {d : Nat} {v : Value} (h : Keeps M e e') (hd : (M.any fun x => Nat.beq x d) = true) : Keeps M e (upd e' d v) := fun t ht => by
 rw [upd_ne _ _ _ _ (fun hh => by rw [hh, hd] at ht; cases ht)]
 exact h t ht
structure RoundK {σ : Type} (cx : Cx) (M : List Nat) (e0 : Q6) (st : σ → List (Nat × Value)) (hp : σ → List Chunk) (I : σ → Prop) (m : Nat) (μ : σ → Nat) (e : Q6) (w : World) : Prop where
 out : ∃ s, Jez e (st s) ∧ Keeps M e0 e ∧ Fr cx w ∧ Sat cx w (hp s) ∧ I s ∧ μ s < m
def Row (w : World) (a : Option Addr) (sz : Nat) (xs : List (List Value)) : Prop :=
 xs = [] ∨ ∃ b off, a = some ⟨b, off, none⟩ ∧ ∀ (i : Nat) (x : List Value), xs[i]? = some x → x.length = sz ∧ ∀ (j : Nat) (v : Value), x[j]? = some v → w.cell? ⟨b, off + i * sz + j, none⟩ = some v
theorem Row.some {w : World} {a : Option Addr} {sz : Nat} {xs : List (List Value)} (h : Row w a sz xs) {i : Nat} (hi : i < xs.length) : ∃ b off, a = some ⟨b, off, none⟩ := by
 rcases h with h | ⟨b, off, ha, _⟩
 ·subst h; simp at hi
 ·exact ⟨b, off, ha⟩
theorem Jct {sz : Nat} : ∀ (xs : List (List Value)) (i : Nat) (x : List Value), (xs.all fun x => Nat.beq x.length sz) = true → xs[i]? = some x → ∀ (j : Nat) (v : Value), x[j]? = some v → xs.flatten[i * sz + j]? = some v
 | [], i, x, _, hx, _, _, _ => by simp at hx
 | y :: ys, i, x, hl, hx, j, v, hv => by
  simp only [List.all_cons, Bool.and_eq_true] at hl
  have hy : y.length = sz := by simpa using hl.1
  have hj : j < x.length := by
   rcases Nat.lt_or_ge j x.length with h | h
   ·exact h
   ·simp [List.getElem?_eq_none h] at hv
  cases i with
  | zero =>
   simp at hx; subst hx
   simp only [List.flatten_cons, Nat.zero_mul, Nat.zero_add]
   rw [List.getElem?_append_left hj]
   exact hv
  | succ i =>
   simp at hx
   have := Jct ys i x hl.2 hx j v hv
   simp only [List.flatten_cons]
   rw [List.getElem?_append_right (by rw [Nat.succ_mul]; omega)]
   rw [show (i + 1) * sz + j - y.length = i * sz + j from by rw [Nat.succ_mul]; omega]
   exact this
theorem Jbi {w : World} {i b : Nat} {cs : List Value} {T : TypeId} {sz : Nat} {xs : List (List Value)} (hS : Sat cx w L) (hL : L[i]? = some (Jp b cs T)) (hcs : xs.flatten = cs) (hlen : (xs.all fun x => Nat.beq x.length sz) = true) : Row w (some ⟨b, 0, none⟩) sz xs := by
 refine .inr ⟨b, 0, rfl, fun i x hx => ⟨?_, fun j v hv => ?_⟩⟩
 ·have := List.all_eq_true.1 hlen x (List.mem_of_getElem? hx)
  simpa using this
 ·rw [Jdj (Y6 hS hL), ← hcs, Nat.zero_add]
  exact Jct xs i x hlen hx j v hv
theorem Row.at {w : World} {a : Option Addr} {sz : Nat} {α : Type} {f : α → List Value} {xs : List α} (h : Row w a sz (xs.map f)) {k : Nat} (hk : k < xs.length) : ∃ b off, a = Option.some ⟨b, off, none⟩ :=
 h.some (i := k) (by simpa using hk)
def Ux (a : Option Addr) (k : Nat) : Value :=
 match a with
 | some x => .pointer (some ⟨x.block, x.off + k, none⟩)
 | none => undef
theorem Wx {d : Option Nat} {X : Operand} {a : Option Addr} {m c : Nat} {t u : TypeId} (hu : P.underlying t = some (.slice u)) (hx : ev e X = .slice a m c) (w : World) :
  (execOp (ev e) ⟨d, .call ⟨.builtin .len, #[X], #[t]⟩, ty, pos, af, g⟩).run P w = .ok (.value (.int .i64 m)) w := by
 simp [execOp, resolve, invoke, builtin, hx, Builtin.len_, run_underlying hu, goInt]
theorem r_lenS {d : Option Nat} {X : Operand} {s : ByteArray} {t : TypeId} (hu : P.underlying t = some .string) (hx : ev e X = .string s) (w : World) :
  (execOp (ev e) ⟨d, .call ⟨.builtin .len, #[X], #[t]⟩, ty, pos, af, g⟩).run P w = .ok (.value (.int .i64 s.size)) w := by
 simp [execOp, resolve, invoke, builtin, hx, Builtin.len_, run_underlying hu, goInt]
theorem r_index {d : Option Nat} {X I : Operand} {a : Option Addr} {m c : Nat} {t u sz : Nat} {k : IntKind} {i : Int} (hu : P.underlying t = some (.slice u)) (hs : ∀ w, (sizeOf u).run P w = .ok sz w)
  (hx : ev e X = .slice a m c) (hi : ev e I = .int k i) (ha : ∃ b off, a = some ⟨b, off, none⟩) (h0 : 0 ≤ i) (h1 : i < m) (w : World) :
  (execOp (ev e) ⟨d, .indexAddr t X I, ty, pos, af, g⟩).run P w = .ok (.value (Ux a (i.toNat * sz))) w := by
 obtain ⟨b, off, rfl⟩ := ha
 simp [execOp, Instr.indexAt, hx, hi, asIntOf, run_underlying hu, h0, h1, hs, Ux, Addr.add_lit]
theorem Us {d : Option Nat} {T fld k fo ft fsz bo : Nat} {a : Option Addr} {nm tg pk : String} {em : Bool} {X : Operand} {fs : Array Field} (hu : ∀ w, (underlying T).run P w = .ok (.struct fs) w)
  (hf : fs[fld]? = some ⟨nm, ft, fo, em, tg, pk, bo⟩) (hs : ∀ w, (sizeOf ft).run P w = .ok fsz w) (hsz : Nat.blt 0 fsz = true) (hp : ev e X = Ux a k) (ha : ∃ b off, a = some ⟨b, off, none⟩) (w : World) :
  (execOp (ev e) ⟨d, .fieldAddr T X fld, ty, pos, af, g⟩).run P w = .ok (.value (Ux a (k + fo))) w := by
 obtain ⟨b, off, rfl⟩ := ha
 rw [Ya hu hf hs hsz hp w]
 simp [Ux, Nat.add_assoc]
theorem run_loadP1 {T k : Nat} {d : Option Nat} {a : Option Addr} {A : Operand} {sz i j : Nat} {xs : List (List Value)} {x : List Value} {v : Value} {w : World} (hA : ∀ w, (isAgg T).run P w = .ok false w)
  (hp : ev e A = Ux a k) (hk : k = i * sz + j) (hr : Row w a sz xs) (hx : xs[i]? = some x) (hv : rg x j = some v) :
  (execOp (ev e) ⟨d, .load T A, ty, pos, af, g⟩).run P w = .ok (.value v) w := by
 rcases hr with rfl | ⟨b, off, rfl, h⟩
 ·simp at hx
 ·have hc := (h i x hx).2 j v (by rw [← rg_eq]; exact hv)
  subst hk
  have hp' : ev e A = .pointer (some ⟨b, off + i * sz + j, none⟩) := by rw [hp]; simp [Ux, Nat.add_assoc]
  simp [execOp, Instr.loadAt, Instr.sureAddr, hp', U7 hA hc]
theorem run_loadPN {T k m : Nat} {d : Option Nat} {a : Option Addr} {A : Operand} {sz i j : Nat} {xs : List (List Value)} {x vs : List Value} {w : World} (hA : ∀ w, (isAgg T).run P w = .ok true w) (hs : ∀ w, (sizeOf T).run P w = .ok m w)
  (hp : ev e A = Ux a k) (hk : k = i * sz + j) (hr : Row w a sz xs) (hx : xs[i]? = some x) (hv : rd x j m = some vs) :
  (execOp (ev e) ⟨d, .load T A, ty, pos, af, g⟩).run P w = .ok (.value (.agg vs.toArray)) w := by
 rcases hr with rfl | ⟨b, off, rfl, h⟩
 ·simp at hx
 ·obtain ⟨h1, h2⟩ := rd_get hv
  subst hk
  have hp' : ev e A = .pointer (some ⟨b, off + i * sz + j, none⟩) := by rw [hp]; simp [Ux, Nat.add_assoc]
  have := Wj (P := P) (w := w) (b := b) (o := off + i * sz + j) hA hs h1 (fun q v hq => by
   rw [Nat.add_assoc]; exact (h i x hx).2 (j + q) v (h2 q v hq))
  simp [execOp, Instr.loadAt, Instr.sureAddr, hp', this]
theorem Jy {o : Oper} {d : Nat} {v : Value} (hr : ∀ w, Fr cx w → Sat cx w L → (execOp (ev e) o).run P w = .ok (.value v) w) (hw : want ops o e = true) (hd : o.dst = some d) (hn : Nat.blt d n = true)
  (k : At cx (WL P n ops Q rest) (upd e d v) L) : At cx (WL P n ops Q (o :: rest)) e L :=
 Jcq hw hd hn fun w hF hS => ⟨v, w, hr w hF hS, k.out w hF hS⟩
theorem Jdy {o : Oper} {d : Nat} {v : Value} (hr : ∀ w, Fr cx w → (execOp (ev e) o).run P w = .ok (.value v) w) (hw : want ops o e = true) (hd : o.dst = some d)
  (k : Sq P cx ops F rest ss (upd e d v) L) : Sq P cx ops F (o :: rest) (.d [] v :: ss) e L :=
 d_det hw hd (fun w _ hF _ _ => by unfold RunsTo; rw [hr w hF]; exact ⟨rfl, Grow.refl w⟩) k
theorem Qm {d : Nat} {f : FuncId} {A : Array Operand} {tys : Array TypeId} {args : List Value} {v : Value} (h : ∀ w, Fr cx w → Sat cx w L → Does P f args.toArray w fun v' w' => v' = v ∧ Grow w w') (hc : ∀ args w, (callFunc f args).run P w = .ok (.enter f args) w)
  (hw : want ops ⟨some d, .call ⟨.value (.func f), A, tys⟩, ty, pos, af, g⟩ e = true) (hn : Nat.blt d n = true) (ha : A.toList.map (ev e) = args)
  (k : At cx (WL P n ops Q rest) (upd e d v) L) : At cx (WL P n ops Q (⟨some d, .call ⟨.value (.func f), A, tys⟩, ty, pos, af, g⟩ :: rest)) e L :=
 l_calls hw rfl hn (Jc4 hc ha) fun w hF hS => (h w hF hS).mono fun v' w' ⟨hv, hg⟩ => by
  subst hv
  exact k.out w' (hF.grow hg) (hS.grow hg)
theorem Jd4 {d : Nat} {f : FuncId} {A : Array Operand} {tys : Array TypeId} {args : List Value} {v : Value} {rds : List Nat} (h : ∀ w L', Fr cx w → Sat cx w L' → (∀ i ∈ rds, L'[i]? = L[i]?) → Does P f args.toArray w fun v' w' => v' = v ∧ Grow w w') (hc : ∀ args w, (callFunc f args).run P w = .ok (.enter f args) w)
  (hw : want ops ⟨some d, .call ⟨.value (.func f), A, tys⟩, ty, pos, af, g⟩ e = true) (ha : A.toList.map (ev e) = args)
  (k : Sq P cx ops F rest ss (upd e d v) L) : Sq P cx ops F (⟨some d, .call ⟨.value (.func f), A, tys⟩, ty, pos, af, g⟩ :: rest) (.d rds v :: ss) e L :=
 d_det hw rfl (fun w L' hF hS hi => by
  unfold RunsTo
  rw [Jc4 hc ha]
  exact h w L' hF hS hi) k
theorem r_ext {d : Option Nat} {f : FuncId} {A : Array Operand} {tys : Array TypeId} {args : List Value} {v : Value} (hc : ∀ w, (callFunc f args.toArray).run P w = .ok (.value v) w) (ha : A.toList.map (ev e) = args) (w : World) :
  (execOp (ev e) ⟨d, .call ⟨.value (.func f), A, tys⟩, ty, pos, af, g⟩).run P w = .ok (.value v) w := by
 subst ha
 have : (A.toList.map (ev e)).toArray = A.map (ev e) := by rw [← Array.toList_map, Array.toArray_toList]
 rw [this] at hc
 simp only [execOp, resolve, ev, Deferred.ofValue, Sem.run_bind, Sem.run_pure, Result.andThen_ok, invoke, hc, Array.append_empty, Array.empty_append]
theorem fold_set (off : Nat) : ∀ (vs : List Value) (j : Nat) (cs : Array Value), off + j + vs.length ≤ cs.size →
  ((vs.zipIdx j).foldl (fun cs (p : Value × Nat) => cs.setIfInBounds (off + p.2) p.1) cs).toList = cs.toList.take (off + j) ++ vs ++ cs.toList.drop (off + j + vs.length)
 | [], j, cs, _ => by simp
 | v :: vs, j, cs, h => by
  simp only [List.zipIdx_cons, List.foldl_cons]
  rw [fold_set off vs (j + 1) _ (by simp at h ⊢; omega)]
  have hlt : off + j < cs.size := by simp at h; omega
  simp only [Array.toList_setIfInBounds, List.length_cons]
  have e1 : (cs.toList.set (off + j) v).take (off + (j + 1)) = cs.toList.take (off + j) ++ [v] := by
   rw [show off + (j + 1) = (off + j) + 1 from by omega, List.take_add_one]
   rw [List.take_set_of_le (Nat.le_refl _)]
   simp [hlt]
  have e2 : (cs.toList.set (off + j) v).drop (off + (j + 1) + vs.length) = cs.toList.drop (off + j + (vs.length + 1)) := by
   rw [List.drop_set_of_lt (by omega)]
   congr 1; omega
  rw [e1, e2]
  simp
theorem fill_all (sz : Nat) : ∀ (vs : List Value) (i : Nat) (cs : Array Value), (∀ v ∈ vs, v.cells.size = sz) → cs.size = (i + vs.length) * sz →
  ∃ out : Array Value, Instr.fill (fun i => some (i * sz, sz)) cs ((vs.zipIdx i).map fun p => (p.2, p.1)) = some out ∧ out.toList = cs.toList.take (i * sz) ++ vs.flatMap fun v => v.cells.toList
 | [], i, cs, _, hsz => ⟨cs, rfl, by simp at hsz; simp [← hsz, List.take_of_length_le]⟩
 | v :: vs, i, cs, hv, hsz => by
  have h1 : v.cells.size = sz := hv v (by simp)
  have hle : i * sz + v.cells.size ≤ cs.size := by
   rw [h1, hsz, ← Nat.succ_mul]; exact Nat.mul_le_mul_right _ (by simp)
  have hf := fold_set (i * sz) v.cells.toList 0 cs (by simpa using hle)
  obtain ⟨out, ho1, ho2⟩ := fill_all sz vs (i + 1) (v.cells.zipIdx.foldl (fun cs (p : Value × Nat) => cs.setIfInBounds (i * sz + p.2) p.1) cs) (fun u hu => hv u (by simp [hu])) (by
   have : (v.cells.zipIdx.foldl (fun cs (p : Value × Nat) => cs.setIfInBounds (i * sz + p.2) p.1) cs).size = cs.size := by
    rw [← Array.foldl_toList, ← Array.length_toList, Array.toList_zipIdx, hf]
    simp
    omega
   rw [this, hsz]; simp; congr 1; omega)
  refine ⟨out, ?_, ?_⟩
  ·simp only [List.zipIdx_cons, List.map_cons, Instr.fill]
   rw [if_neg (by simp [h1]; omega)]
   exact ho1
  ·rw [ho2, ← Array.foldl_toList, Array.toList_zipIdx, hf]
   simp only [List.flatMap_cons]
   rw [show (i + 1) * sz = i * sz + v.cells.toList.length from by rw [Nat.succ_mul]; simp [h1]]
   simp only [Nat.add_zero]
   have hl : (cs.toList.take (i * sz) ++ v.cells.toList).length = i * sz + v.cells.toList.length := by simp; omega
   rw [List.take_left' hl, List.append_assoc]
theorem Zu {d : Option Nat} {t u sz m : Nat} {parts : Array (Nat × Operand)} {z : Value} {vs : List Value} {cs : List Value} (hu : P.underlying t = some (.slice u)) (hs : ∀ w, (sizeOf u).run P w = .ok sz w) (hz : ∀ w, (zeroValue u).run P w = .ok z w)
  (hps : parts.toList.map (fun (i, x) => (i, ev e x)) = (vs.zipIdx 0).map fun p => (p.2, p.1)) (hm : vs.length = m) (hall : (vs.all fun v => Nat.beq v.cells.size sz) = true) (hb : Nat.ble (m * sz) 16777216 = true) (hcs : (vs.flatMap fun v => v.cells.toList) = cs) (w : World) :
  (execOp (ev e) ⟨d, .buildSlice t m parts, ty, pos, af, g⟩).run P w = .ok (.value (.slice (some ⟨w.heap.size, 0, none⟩) m m)) (w.alloc (.cells cs.toArray u)) := by
 have hps' : (parts.map fun (i, x) => (i, ev e x)).toList = (vs.zipIdx 0).map fun p => (p.2, p.1) := by rw [← hps, Array.toList_map]
 have hb' : m * sz ≤ 16777216 := by simpa using hb
 have hall' : ∀ v ∈ vs, v.cells.size = sz := fun v hv => by simpa using List.all_eq_true.1 hall v hv
 have key : ∀ cs0 : Array Value, cs0.size = m * sz → Instr.fill (fun i => some (i * sz, sz)) cs0 ((vs.zipIdx 0).map fun p => (p.2, p.1)) = some cs.toArray := by
  intro cs0 h0
  obtain ⟨out, h1, h2⟩ := fill_all sz vs 0 cs0 hall' (by rw [h0, Nat.zero_add, hm])
  rw [h1]
  congr 1
  apply Array.ext'
  rw [h2, ← hcs]; simp
 have h24 : ¬ m * sz > 2 ^ 24 := by omega
 by_cases h0 : m * sz = 0
 ·simp only [execOp, Instr.buildSlice, Sem.run_bind, run_underlying hu, Result.andThen_ok, hs, hps', h24, if_false]
  simp only [h0, if_true, Sem.run_pure, pure_bind]
  rw [key _ (by simp [h0])]
  simp [newRow, newObj, Sem.run]
 ·have hk := key ((Array.range (m * sz)).map (z.cells[· % z.cells.size]!)) (by simp)
  simp only [execOp, Instr.buildSlice, Sem.run_bind, run_underlying hu, Result.andThen_ok, hs, hps', h24, h0, if_false, hz, Sem.run_pure, hk]
  simp [newRow, newObj, Sem.run]
theorem Yu {d : Nat} {t u sz m : Nat} {parts : Array (Nat × Operand)} {z : Value} {vs cs : List Value} (hu : P.underlying t = some (.slice u)) (hs : ∀ w, (sizeOf u).run P w = .ok sz w) (hz : ∀ w, (zeroValue u).run P w = .ok z w)
  (hw : want ops ⟨some d, .buildSlice t m parts, ty, pos, af, g⟩ e = true) (hn : Nat.blt d n = true)
  (hps : parts.toList.map (fun (i, x) => (i, ev e x)) = (vs.zipIdx 0).map fun p => (p.2, p.1)) (hm : vs.length = m) (hall : (vs.all fun v => Nat.beq v.cells.size sz) = true) (hb : Nat.ble (m * sz) 16777216 = true) (hcs : (vs.flatMap fun v => v.cells.toList) = cs)
  (k : ∀ b, At cx (WL P n ops Q rest) (upd e d (.slice (some ⟨b, 0, none⟩) m m)) (L ++ [Jp b cs u])) : At cx (WL P n ops Q (⟨some d, .buildSlice t m parts, ty, pos, af, g⟩ :: rest)) e L :=
 Jcq hw rfl hn fun w hF hS => ⟨.slice (some ⟨w.heap.size, 0, none⟩) m m, w.alloc (.cells cs.toArray u), Zu hu hs hz hps hm hall hb hcs w, (k w.heap.size).out _ (hF.grow (Jad w _)) (sat_new hF hS cs u)⟩
end rules
end Go.Vc

/- Slices that the call makes: rows in memory of its own, that grow, are written, are handed on and handed back. Conditions: those that each rule names. -/
namespace Go.Vc
open Go
structure Turn (w w' : World) (S : Nat → Prop) (C : Chunk) : Prop where
 os : w'.os = w.os
 tape : w'.tape = w.tape
 output : w'.output = w.output
 size : w.heap.size ≤ w'.heap.size
 block : ∀ b, b < w.heap.size → ¬ S b → w'.heap[b]? = w.heap[b]?
 out : ∃ S' : Nat → Prop, C.P S' w' ∧ ∀ b, S' b → b < w'.heap.size ∧ (S b ∨ w.heap.size ≤ b)
abbrev Yt : Nat → Prop := fun _ => False
structure Imp (C D : Chunk) : Prop where
 out : ∀ S w, C.P S w → D.P S w
theorem Imp.refl (C : Chunk) : Imp C C := ⟨fun _ _ h => h⟩
theorem Imp.of {C D : Chunk} (h : C = D) : Imp C D := h ▸ Imp.refl C
theorem Turn.grow {w w' : World} {C : Chunk} (h : Turn w w' Yt C) : Grow w w' := ⟨h.os, h.tape, h.output, h.size, fun k hk => h.block k hk (fun x => x)⟩
theorem Yx {σ : Type} {w0 : World} {S : Nat → Prop} {L : List Chunk} {v : Value} {G : σ → Value} {C : σ → Chunk} {i : Nat} {C0 : Chunk} (x : σ) (hL : L[i]? = some C0) (hv : v = G x) (hc : Imp C0 (C x)) :
  ∀ w, Fr ⟨w0, S⟩ w → Sat ⟨w0, S⟩ w L → ∃ x, v = G x ∧ Turn w0 w S (C x) := fun w hF hS => by
 refine ⟨x, hv, hF.os, hF.tape, hF.output, hF.size, fun b hb hn => hF.block b ?_, ?_⟩
 ·rintro (h | h)
  ·exact absurd h (by show ¬ w0.heap.size ≤ b; omega)
  ·exact hn h
 ·obtain ⟨fp, h1, h2, _⟩ := hS.out
  refine ⟨fp i, hc.out _ _ (h1 i C0 hL), fun b hb => ?_⟩
  obtain ⟨_, a2, a3⟩ := h2 i b hb
  exact ⟨a2, a3.symm⟩
theorem Sat.one {w : World} {S : Nat → Prop} {C : Chunk} (h : C.P S w) (hb : ∀ b, S b → b < w.heap.size) : Sat ⟨w, S⟩ w [C] :=
 ⟨fun i b => i = 0 ∧ S b, fun i c hc => by
  cases i with
  | zero => simp at hc; subst hc; simpa using h
  | succ i => simp at hc, fun i b ⟨hi, hs⟩ => ⟨by simp [hi], hb b hs, .inr hs⟩, fun i j b ⟨hi, _⟩ ⟨hj, _⟩ => by omega⟩
section rules
variable {P : Program} {n : Nat} {cx : Cx} {Q : Va} {e : Q6} {L : List Chunk} {ops : Array Oper} {F : Q6 → List Chunk → Prop} {rest : List Oper} {ss : List Kd}
variable {d : Nat} {ty : TypeId} {pos : String} {af : Array Edge} {g : Option (Nat × Bool)}
theorem c_know {K : Q6 → World → Prop} {φ : Prop} (h : ∀ w, Fr cx w → Sat cx w L → φ) (k : φ → At cx K e L) : At cx K e L :=
 ⟨fun w hF hS => (k (h w hF hS)).out w hF hS⟩
theorem Fr.turn {w w' : World} {S : Nat → Prop} {C : Chunk} (hF : Fr cx w) (h : Turn w w' S C) (hS : ∀ b, S b → cx.own b) : Fr cx w' :=
 ⟨h.os.trans hF.os, h.tape.trans hF.tape, h.output.trans hF.output, Nat.le_trans hF.size h.size, fun b hb => by
  have hlt : b < w.heap.size := by
   have : ¬ cx.w0.heap.size ≤ b := fun hh => hb (.inl hh)
   have := hF.size
   omega
  rw [h.block b hlt (fun hs => hb (hS b hs)), hF.block b hb]⟩
theorem Sat.turnNew {w w' : World} {C : Chunk} (hS : Sat cx w L) (hF : Fr cx w) (h : Turn w w' Yt C) : Sat cx w' (L ++ [C]) := by
 obtain ⟨S', h1, h2⟩ := h.out
 exact hS.snoc hF h.grow h1 fun b hb => ⟨((h2 b hb).2.resolve_left (fun x => x)), (h2 b hb).1⟩
theorem Sat.turnAt {w w' : World} {i : Nat} {C0 C : Chunk} (hS : Sat cx w L) (hF : Fr cx w) (hL : L[i]? = some C0)
  (h : ∀ S : Nat → Prop, C0.P S w → (∀ b, S b → b < w.heap.size ∧ cx.own b) → Turn w w' S C) (hs : w.heap.size ≤ w'.heap.size) : Sat cx w' (L.set i C) :=
 hS.set hF hL hs fun S hp hb => by
  have t := h S hp hb
  obtain ⟨S', k1, k2⟩ := t.out
  exact ⟨S', k1, k2, fun b hlt hn => t.block b hlt hn⟩
theorem Sat.at {w : World} {i : Nat} {C : Chunk} (hS : Sat cx w L) (hL : L[i]? = some C) : ∃ S : Nat → Prop, C.P S w ∧ ∀ b, S b → b < w.heap.size ∧ cx.own b := by
 obtain ⟨fp, h1, h2, _⟩ := hS.out
 exact ⟨fp i, h1 i C hL, fun b hb => (h2 i b hb).2⟩
theorem l_runs {o : Oper} {d : Nat} (hw : want ops o e = true) (hd : o.dst = some d) (hn : Nat.blt d n = true)
  (h : ∀ w, Fr cx w → Sat cx w L → RunsTo P (ev e) o w fun v w' => WL P n ops Q rest (upd e d v) w') : At cx (WL P n ops Q (o :: rest)) e L :=
 ⟨fun w hF hS => ⟨fun a ha => by
  have hr := h w hF hS
  unfold RunsTo at hr
  unfold wpList
  rw [Jdp ha, hw, if_pos rfl]
  refine .inl ?_
  unfold Oper.wp
  rw [ha.ev]
  generalize (execOp (ev e) o).run P w = r at hr
  cases r with
  | halt x w' => exact hr.elim
  | ok nx w' =>
   cases nx with
   | value v =>
    show wpList P ops (lift n Q) rest (a.put o.dst v) w'
    rw [hd]
    exact hr.out _ (ha.put hn v)
   | skip =>
    show wpList P ops (lift n Q) rest (a.put o.dst undef) w'
    rw [hd]
    exact hr.out _ (ha.put hn undef)
   | enter f args =>
    refine Calls.mono hr ?_
    rintro en w'' ⟨v, rfl, hk⟩
    show wpList P ops (lift n Q) rest (a.put o.dst v) w''
    rw [hd]
    exact hk.out _ (ha.put hn v)
   | _ => exact hr.elim⟩⟩
def Turns (P : Program) (cx : Cx) (e : Q6) (o : Oper) (L : List Chunk) (i : Nat) (rds : List Nat) {σ : Type} (G : σ → Value) (C : σ → Chunk) : Prop :=
 ∀ w L', Fr cx w → Sat cx w L' → L'.length = L.length → (∀ j, j ∈ rds ∨ j = i → L'[j]? = L[j]?) → RunsTo P (ev e) o w fun v w' => ∃ x, v = G x ∧ Fr cx w' ∧ Sat cx w' (L'.set i (C x))
def Jfd (P : Program) (cx : Cx) (e : Q6) (o : Oper) (L : List Chunk) (rds : List Nat) {σ : Type} (G : σ → Value) (C : σ → Chunk) : Prop :=
 ∀ w L', Fr cx w → Sat cx w L' → (∀ j, j ∈ rds → L'[j]? = L[j]?) → RunsTo P (ev e) o w fun v w' => ∃ x, v = G x ∧ Turn w w' Yt (C x)
theorem Xl {σ : Type} {o : Oper} {d i : Nat} {rds : List Nat} {G : σ → Value} {C : σ → Chunk} (h : Turns P cx e o L i rds G C) (hw : want ops o e = true) (hd : o.dst = some d) (hn : Nat.blt d n = true)
  (k : ∀ x, At cx (WL P n ops Q rest) (upd e d (G x)) (L.set i (C x))) : At cx (WL P n ops Q (o :: rest)) e L :=
 l_runs hw hd hn fun w hF hS => (h w L hF hS rfl (fun _ _ => rfl)).mono fun v w' ⟨x, hv, hF', hS'⟩ => by
  subst hv
  exact (k x).out w' hF' hS'
theorem Zr {σ : Type} {o : Oper} {d : Nat} {rds : List Nat} {G : σ → Value} {C : σ → Chunk} (h : Jfd P cx e o L rds G C) (hw : want ops o e = true) (hd : o.dst = some d) (hn : Nat.blt d n = true)
  (k : ∀ x, At cx (WL P n ops Q rest) (upd e d (G x)) (L ++ [C x])) : At cx (WL P n ops Q (o :: rest)) e L :=
 l_runs hw hd hn fun w hF hS => (h w L hF hS (fun _ _ => rfl)).mono fun v w' ⟨x, hv, ht⟩ => by
  subst hv
  exact (k x).out w' (hF.grow ht.grow) (hS.turnNew hF ht)
def Kd.t (i : Nat) (rds : List Nat) {σ : Type} (G : σ → Value) (Cv : Value → Chunk) : Kd := .g [] rds [i] (fun _ _ v => ∃ x, v = G x) (fun _ _ v => [Cv v])
theorem Jew {σ : Type} {o : Oper} {d i : Nat} {rds : List Nat} {G : σ → Value} {C : σ → Chunk} {Cv : Value → Chunk} (x0 : σ) (h : Turns P cx e o L i rds G C) (hC : ∀ x, Cv (G x) = C x) (hw : want ops o e = true) (hd : o.dst = some d)
  (k : ∀ x, Sq P cx ops F rest ss (upd e d (G x)) (L.set i (C x))) : Sq P cx ops F (o :: rest) (.t i rds G Cv :: ss) e L := by
 refine .take hw ⟨G x0, x0, rfl⟩ ⟨fun w L' hF hS hl hi => ?_⟩ fun v' hv' => ?_
 ·refine (h w L' hF hS hl fun j hj => hi j (by simpa [Kd.t, Kd.rds, Kd.wrs] using hj)).mono fun v w' ⟨x, hv, hF', hS'⟩ => ?_
  subst hv
  refine ⟨⟨x, rfl⟩, hF', ?_⟩
  show Sat cx w' (L'.set i (Cv (G x)))
  rw [hC]; exact hS'
 ·obtain ⟨x, rfl⟩ : ∃ x, v' = G x := hv'
  show Sq P cx ops F rest ss (Jcn e o.dst (G x)) (L.set i (Cv (G x)))
  rw [hC, hd]
  exact k x
theorem Ye {σ : Type} {d : Nat} {f : FuncId} {A : Array Operand} {tys : Array TypeId} {args : List Value} {rds : List Nat} {G : σ → Value} {C : σ → Chunk}
  (h : ∀ w L', Fr cx w → Sat cx w L' → (∀ j ∈ rds, L'[j]? = L[j]?) → Does P f args.toArray w fun v w' => ∃ x, v = G x ∧ Turn w w' Yt (C x)) (hc : ∀ args w, (callFunc f args).run P w = .ok (.enter f args) w)
  (ha : A.toList.map (ev e) = args) : Jfd P cx e ⟨some d, .call ⟨.value (.func f), A, tys⟩, ty, pos, af, g⟩ L rds G C := fun w L' hF hS hi => by
 unfold RunsTo
 rw [Jc4 hc ha]
 exact h w L' hF hS hi
def Jw (E : TypeId) (sz : Nat) (v : Value) (n : Nat) (xs : List (List Value)) : Chunk where
 P S w := (w.ownsRow 0 E sz v n xs.flatten ∧ xs.length = n ∧ ∀ x ∈ xs, x.length = sz) ∧ ∀ b, v.ownBlock = some b → S b
 loc S w w' h := by
  rintro ⟨⟨⟨h1, h2⟩, h3⟩, h4⟩
  refine ⟨⟨⟨h1, ?_⟩, h3⟩, h4⟩
  rcases h2 with h2 | ⟨g, cap, cur, rfl, hb, hh, hr⟩
  ·exact .inl h2
  ·exact .inr ⟨g, cap, cur, rfl, hb, (h g (h4 g rfl)).trans hh, hr⟩
theorem Jd0 {w : World} {E sz n c : Nat} {a : Option Addr} {xs : List (List Value)} (h : w.ownsRow 0 E sz (.slice a n c) n xs.flatten) (hn : xs.length = n) (hl : ∀ x ∈ xs, x.length = sz) : Row w a sz xs := by
 rcases h.2 with ⟨hv, h0⟩ | ⟨g, cap, cur, hv, _, hh, hnc, _, hcs, ht⟩
 ·exact .inl (List.eq_nil_of_length_eq_zero (hn.trans h0))
 ·simp only [Value.slice.injEq] at hv
  obtain ⟨rfl, _, rfl⟩ := hv
  refine .inr ⟨g, 0, rfl, fun i x hx => ⟨hl x (List.mem_of_getElem? hx), fun j v hj => ?_⟩⟩
  have hg := Jct xs i x (List.all_eq_true.2 fun y hy => by simpa using hl y hy) hx j v hj
  rw [← ht, List.getElem?_take] at hg
  split at hg
  ·rw [World.cell?, hh]
   simpa using hg
  ·cases hg
theorem V9 {w : World} {i E sz n c : Nat} {a : Option Addr} {xs : List (List Value)} (hS : Sat cx w L) (hL : L[i]? = some (Jw E sz (.slice a n c) n xs)) : Row w a sz xs := by
 obtain ⟨S, ⟨⟨h1, h2, h3⟩, _⟩, _⟩ := hS.at hL
 exact Jd0 h1 h2 h3
theorem lenOf {w : World} {i E sz n : Nat} {v : Value} {xs : List (List Value)} (hS : Sat cx w L) (hL : L[i]? = some (Jw E sz v n xs)) : xs.length = n := by
 obtain ⟨S, ⟨⟨h1, h2, h3⟩, _⟩, _⟩ := hS.at hL
 exact h2
theorem Q1 {K : Q6 → World → Prop} (E sz : Nat) (k : At cx K e (L ++ [Jw E sz (.slice none 0 0) 0 []])) : At cx K e L :=
 ⟨fun w hF hS => k.out w hF (hS.snoc hF (Grow.refl w) (S := Yt) ⟨⟨World.ownsRow_nil _ _ _ _, rfl, by simp⟩, by simp [Value.ownBlock]⟩ (fun _ h => h.elim))⟩
theorem Xx {K : Q6 → World → Prop} (i : Nat) {C C' : Chunk} (hL : L[i]? = some C) (h : Imp C C') (k : At cx K e (L.set i C')) : At cx K e L :=
 ⟨fun w hF hS => k.out w hF (hS.set hF hL (Nat.le_refl _) fun S hp hb => ⟨S, h.out S w hp, fun b hs => ⟨(hb b hs).1, .inl hs⟩, fun _ _ _ => rfl⟩)⟩
theorem Jbl {o : Oper} {d : Nat} {v : Value} {rds : List Nat} (hr : ∀ w L', Fr cx w → Sat cx w L' → (∀ i ∈ rds, L'[i]? = L[i]?) → (execOp (ev e) o).run P w = .ok (.value v) w) (hw : want ops o e = true) (hd : o.dst = some d)
  (k : Sq P cx ops F rest ss (upd e d v) L) : Sq P cx ops F (o :: rest) (.d rds v :: ss) e L :=
 d_det hw hd (fun w L' hF hS hi => by unfold RunsTo; rw [hr w L' hF hS hi]; exact ⟨rfl, Grow.refl w⟩) k
theorem Jhh {d : Option Nat} {S X : Operand} {t E : TypeId} {I : TypeInfo} {z : Value} {sz by_ : Nat} {w : World} {v : Value} {m : Nat} {xs : List Value} {ad : Addr} {q c : Nat} {news : List Value}
  (ht : P.underlying t = some (.slice E)) (hi : P.info? E = some I) (hz : I.zero = some z) (hsize : I.size = sz) (hby : I.bytes = by_) (hzs : z.cells.size = sz) (hsz : 0 < sz)
  (hs : ev e S = v) (hown : w.ownsRow 0 E sz v m xs) (hx : ev e X = .slice (some ad) q c) (hl : news.length = q * sz) (hnews : ∀ j u, news[j]? = some u → w.cell? (ad.add j) = some u) (h1 : ∀ u ∈ news, u.oneCell' = true)
  (h63 : m + q ≤ maxLen) (hbytes : (m + q) * by_ ≤ 140737488355328) :
  ∃ v' w', (execOp (ev e) ⟨d, .call ⟨.builtin .append, #[S, X], #[t, t]⟩, ty, pos, af, g⟩).run P w = .ok (.value v') w' ∧ w'.ownsRow 0 E sz v' (m + q) (xs ++ news) ∧ w.grownBy w' v.ownBlock ∧ (v'.ownBlock = v.ownBlock ∨ v'.ownBlock = some w.heap.size) := by
 obtain ⟨v', w', hr, h2, h3, h4, h5⟩ := run_append_own_at (P := P) w 0 t ty E I z sz by_ ht hi hz hsize hby hzs hsz v m xs hown ad q c news hl hnews h1 h63 hbytes (Nat.zero_le _)
 refine ⟨v', w', ?_, h2, h3, h5⟩
 simp only [execOp, resolve, invoke, builtin, Sem.run_bind, Sem.run_pure, Result.andThen_ok, List.map_toArray, List.map_cons, List.map_nil, hs, hx, hr]
theorem Jb5 {w : World} {E sz n : Nat} {v : Value} {xs : List Value} (h : w.ownsRow 0 E sz v n xs) : ∃ p : Option Addr × Nat, v = .slice p.1 n p.2 := by
 rcases h.2 with ⟨rfl, h0⟩ | ⟨g, cap, cur, rfl, _⟩
 ·subst h0; exact ⟨(none, 0), rfl⟩
 ·exact ⟨(some ⟨g, 0, none⟩, cap), rfl⟩
theorem Jbu {w w' : World} {E sz m' : Nat} {v v' : Value} {xs' : List (List Value)} {S : Nat → Prop} (hS : ∀ b, v.ownBlock = some b → S b) (ho : w'.ownsRow 0 E sz v' m' xs'.flatten) (hg : w.grownBy w' v.ownBlock)
  (h5 : v'.ownBlock = v.ownBlock ∨ v'.ownBlock = some w.heap.size) (hn : xs'.length = m') (hl : ∀ x ∈ xs', x.length = sz) : Turn w w' S (Jw E sz v' m' xs') := by
 refine ⟨hg.os, hg.tape, hg.output, hg.size, fun b hb hn => hg.block b hb (fun h => hn (hS b h.symm)), fun b => v'.ownBlock = some b, ⟨⟨ho, hn, hl⟩, fun b h => h⟩, fun b hb => ⟨(ho.lt b hb).2, ?_⟩⟩
 rcases h5 with h | h
 ·exact .inl (hS b (h ▸ hb))
 ·rw [h] at hb; cases hb; exact .inr (Nat.le_refl _)
theorem Sat.turnOf {w w' : World} {i : Nat} {C0 C : Chunk} (hS : Sat cx w L) (hF : Fr cx w) (hL : L[i]? = some C0)
  (h : ∀ S : Nat → Prop, C0.P S w → Turn w w' S C) : Fr cx w' ∧ Sat cx w' (L.set i C) := by
 obtain ⟨S, hp, hb⟩ := hS.at hL
 have t := h S hp
 exact ⟨hF.turn t fun b hs => (hb b hs).2, hS.turnAt hF hL (fun S hp _ => h S hp) t.size⟩
theorem Je1 {sz : Nat} : ∀ (xs : List (List Value)), (∀ x ∈ xs, x.length = sz) → ∀ (j : Nat) (u : Value), xs.flatten[j]? = some u → ∃ i k x, xs[i]? = some x ∧ x[k]? = some u ∧ j = i * sz + k
 | [], _, j, u, h => by simp at h
 | x :: r, hl, j, u, h => by
  have hx := hl x (by simp)
  rw [List.flatten_cons] at h
  rcases Nat.lt_or_ge j x.length with hj | hj
  ·rw [List.getElem?_append_left hj] at h
   exact ⟨0, j, x, by simp, h, by simp⟩
  ·rw [List.getElem?_append_right hj] at h
   obtain ⟨i, k, y, h1, h2, h3⟩ := Je1 r (fun y hy => hl y (by simp [hy])) _ u h
   exact ⟨i + 1, k, y, by simpa using h1, h2, by rw [Nat.succ_mul]; omega⟩
theorem Jcm {sz : Nat} : ∀ (xs : List (List Value)), (∀ x ∈ xs, x.length = sz) → xs.flatten.length = xs.length * sz
 | [], _ => by simp
 | x :: r, hl => by
  rw [List.flatten_cons, List.length_append, Jcm r (fun y hy => hl y (by simp [hy])), hl x (by simp), List.length_cons, Nat.succ_mul]
  omega
theorem Je3 {i : Nat} {S X : Operand} {t E : TypeId} {I : TypeInfo} {z : Value} {sz by_ : Nat} {p : Option Addr × Nat} {m m' : Nat} {xs xs' : List (List Value)} {ad : Addr} {q c : Nat} {news : List (List Value)} {rds : List Nat}
  (ht : P.underlying t = some (.slice E)) (hi : P.info? E = some I) (hz : I.zero = some z) (hsize : I.size = sz) (hby : I.bytes = by_) (hzs : z.cells.size = sz) (hsz : Nat.blt 0 sz = true)
  (hL : L[i]? = some (Jw E sz (.slice p.1 m p.2) m xs)) (hs : ev e S = .slice p.1 m p.2) (hx : ev e X = .slice (some ad) q c) (hq : news.length = q) (hnl : ∀ x ∈ news, x.length = sz)
  (hnews : ∀ w L', Fr cx w → Sat cx w L' → (∀ j, j ∈ rds → L'[j]? = L[j]?) → Row w (some ad) sz news) (h1 : ∀ x ∈ news, ∀ u ∈ x, u.oneCell' = true)
  (hxs : xs ++ news = xs') (hm : m + q = m') (h63 : m' ≤ 9223372036854775807) (hbytes : m' * by_ ≤ 140737488355328) :
  Turns P cx e ⟨some d, .call ⟨.builtin .append, #[S, X], #[t, t]⟩, ty, pos, af, g⟩ L i rds (fun p' : Option Addr × Nat => .slice p'.1 m' p'.2) (fun p' => Jw E sz (.slice p'.1 m' p'.2) m' xs') := fun w L' hF hS hl hi' => by
  subst hxs hm
  have hL' := (hi' i (.inr rfl)).trans hL
  obtain ⟨S0, ⟨⟨ho, hlen, hlx⟩, hob⟩, _⟩ := hS.at hL'
  have hsz' : 0 < sz := by simpa using hsz
  have hfl : news.flatten.length = q * sz := by rw [Jcm news hnl, hq]
  have hcell : ∀ j u, news.flatten[j]? = some u → w.cell? (ad.add j) = some u := by
   intro j u hj
   obtain ⟨i', k', x, g1, g2, g3⟩ := Je1 news hnl j u hj
   rcases hnews w L' hF hS (fun j hj => hi' j (.inl hj)) with h | ⟨b, off, ha, h⟩
   ·subst h; simp at g1
   ·cases ha
    have := (h i' x g1).2 k' u g2
    rw [Addr.add_lit, g3, ← Nat.add_assoc]
    exact this
  obtain ⟨v', w', hr, h2, h3, h5⟩ := Jhh (P := P) (ty := ty) (pos := pos) (af := af) (g := g) (d := some d) ht hi hz hsize hby hzs hsz' hs ho hx hfl hcell (by
   intro u hu
   obtain ⟨x, hx, hux⟩ := List.mem_flatten.1 hu
   exact h1 x hx u hux) (by simp only [maxLen]; omega) hbytes
  obtain ⟨p', rfl⟩ := Jb5 h2
  rw [← List.flatten_append] at h2
  obtain ⟨hF', hS'⟩ := hS.turnOf hF hL' (C := Jw E sz (.slice p'.1 (m + q) p'.2) (m + q) (xs ++ news)) fun S1 hp => Jbu hp.2 h2 h3 h5 (by simp [hlen, hq]) (by
   intro x hx
   rcases List.mem_append.1 hx with h | h
   ·exact hlx x h
   ·exact hnl x h)
  unfold RunsTo
  rw [hr]
  exact ⟨p', rfl, hF', hS'⟩
theorem rep_flat (l : List Value) : ∀ (n j : Nat), j < n * l.length → (List.replicate n l).flatten[j]? = l[j % l.length]?
 | 0, j, h => by simp at h
 | n + 1, j, h => by
  rw [List.replicate_succ, List.flatten_cons]
  rcases Nat.lt_or_ge j l.length with hj | hj
  ·rw [List.getElem?_append_left hj, Nat.mod_eq_of_lt hj]
  ·rw [List.getElem?_append_right hj, rep_flat l n (j - l.length) (by rw [Nat.succ_mul] at h; omega), ← Nat.mod_eq_sub_mod hj]
theorem made_rep (z : Array Value) (n : Nat) (hz : 0 < z.size) : (madeCells z (n * z.size)).toList = (List.replicate n z.toList).flatten := by
 refine List.ext_getElem? fun j => ?_
 rcases Nat.lt_or_ge j (n * z.size) with hj | hj
 ·have h1 := rep_flat z.toList n j (by simpa using hj)
  rw [h1]
  have hm : j % z.size < z.size := Nat.mod_lt _ hz
  simp [madeCells, hj, hm]
 ·rw [List.getElem?_eq_none (by simpa [madeCells] using hj), List.getElem?_eq_none]
  rw [Jcm (sz := z.size) _ (by intro x hx; rw [List.eq_of_mem_replicate hx]; simp)]
  simpa using hj
theorem Jf4 {N C : Operand} {t E : TypeId} {I : TypeInfo} {z : Value} {sz by_ : Nat} {m c : Nat} {kl kc : IntKind} {rds : List Nat} {zs : List (List Value)} (ht : P.underlying t = some (.slice E)) (hi : P.info? E = some I) (hz : I.zero = some z) (hsize : I.size = sz) (hby : I.bytes = by_)
  (hzs : z.cells.toList.length = sz) (hsz : Nat.blt 0 sz = true) (hn : ev e N = .int kl (m : Int)) (hc : ev e C = .int kc (c : Int)) (hmc : m = c) (hb : by_ * c ≤ 281474976710656) (h63 : c ≤ 9223372036854775807) (hzz : zs = List.replicate m z.cells.toList) :
  Jfd P cx e ⟨some d, .makeSlice t N C, ty, pos, af, g⟩ L rds (fun p : Option Addr × Nat => .slice p.1 m p.2) (fun p => Jw E sz (.slice p.1 m p.2) m zs) := fun w L' hF hS hi' => by
 subst hsize hby hmc hzz
 obtain ⟨w', hr, ho, hg⟩ := run_make_full (P := P) w 0 t E I z I.size ht hi hz rfl kl kc m hb (by simpa [maxLen] using h63) (Nat.zero_le _)
 have hsz' : 0 < I.size := by simpa using hsz
 have hzz : z.cells.size = I.size := by simpa using hzs
 have ho' : w'.ownsRow 0 E I.size (.slice (some ⟨w.heap.size, 0, none⟩) m m) m (List.replicate m z.cells.toList).flatten := by
  rw [← made_rep z.cells m (by omega), hzz]; exact ho
 unfold RunsTo
 simp only [execOp, hn, hc, hr, Sem.run_bind, Sem.run_pure, Result.andThen_ok]
 refine ⟨(_, _), rfl, hg.os, hg.tape, hg.output, hg.size, fun b hb _ => hg.block b hb (by simp), fun b => b = w.heap.size, ⟨⟨ho', by simp, fun x hx => by rw [List.eq_of_mem_replicate hx]; exact hzs⟩, fun b hb => ?_⟩, fun b hb => ?_⟩
 ·simp [Value.ownBlock] at hb; exact hb.symm
 ·subst hb
  exact ⟨(ho.lt _ rfl).2, .inr (Nat.le_refl _)⟩
def Yc (a : Option Addr) (l m sz : Nat) : Option Addr := if m = l then a else a.map (·.add (l * sz))
theorem Row.cut {w : World} {a : Option Addr} {sz : Nat} {xs : List (List Value)} (h : Row w a sz xs) (l q m : Nat) (hq : l + q ≤ m) : Row w (Yc a l m sz) sz ((xs.drop l).take q) := by
 rcases h with h | ⟨b, off, rfl, h⟩
 ·subst h; exact .inl (by simp)
 ·unfold Yc
  by_cases hm : m = l
  ·have hq0 : q = 0 := by omega
   subst hq0
   exact .inl (by simp)
  ·rw [if_neg hm]
   refine .inr ⟨b, off + l * sz, by simp [Addr.add_lit], fun i x hx => ?_⟩
   rw [List.getElem?_take] at hx
   split at hx
   ·rw [List.getElem?_drop] at hx
    obtain ⟨h1, h2⟩ := h (l + i) x hx
    refine ⟨h1, fun j v hv => ?_⟩
    have := h2 j v hv
    rw [show off + l * sz + i * sz + j = off + (l + i) * sz + j from by rw [Nat.add_mul]; omega]
    exact this
   ·cases hx
theorem Jea {t u : TypeId} (hu : P.underlying t = some (.slice u)) : P.elem t = u := by simp [Program.elem, hu]
theorem r_sliceL {d : Option Nat} {X A : Operand} {a : Option Addr} {m c : Nat} {t u sz : Nat} {ka : IntKind} {l : Int} (hu : P.underlying t = some (.slice u)) (hs : ∀ w, (sizeOf u).run P w = .ok sz w)
  (hx : ev e X = .slice a m c) (ha : ev e A = .int ka l) (h0 : 0 ≤ l) (h1 : l ≤ m) (w : World) :
  (execOp (ev e) ⟨d, .slice t X (some A) none none, ty, pos, af, g⟩).run P w = .ok (.value (.slice (Yc a l.toNat c sz) (m - l.toNat) (c - l.toNat))) w := by
 have hu' : P.underlying t = some (.slice (P.elem t)) := by rw [Jea hu]; exact hu
 simp only [execOp, Option.map_some, Option.map_none, hx, ha, Sem.run_bind, run_sliceAt_slice w t _ _ _ _ hu', run_slice_l w t a m c hu' ka l h0 h1, Jea hu, hs, Result.andThen_ok, Sem.run_pure, sliced, Yc]
theorem Jg6 {d : Option Nat} {X B : Operand} {a : Option Addr} {m c : Nat} {t u sz : Nat} {kb : IntKind} {h : Int} (hu : P.underlying t = some (.slice u)) (hs : ∀ w, (sizeOf u).run P w = .ok sz w)
  (hx : ev e X = .slice a m c) (hb : ev e B = .int kb h) (h0 : 0 ≤ h) (h2 : h ≤ c) (w : World) :
  (execOp (ev e) ⟨d, .slice t X none (some B) none, ty, pos, af, g⟩).run P w = .ok (.value (.slice (Yc a 0 c sz) h.toNat c)) w := by
 have hu' : P.underlying t = some (.slice (P.elem t)) := by rw [Jea hu]; exact hu
 simp only [execOp, Option.map_some, Option.map_none, hx, hb, Sem.run_bind, run_sliceAt_slice w t _ _ _ _ hu', run_slice_h w t a m c hu' kb h h0 h2, Jea hu, hs, Result.andThen_ok, Sem.run_pure, sliced, Yc, Nat.sub_zero]
theorem Jfv {d : Option Nat} {X B M : Operand} {a : Option Addr} {m c : Nat} {t u sz : Nat} {kb km : IntKind} {h q : Int} (hu : P.underlying t = some (.slice u)) (hs : ∀ w, (sizeOf u).run P w = .ok sz w)
  (hx : ev e X = .slice a m c) (hb : ev e B = .int kb h) (hm : ev e M = .int km q) (h0 : 0 ≤ h) (h1 : h ≤ q) (h2 : q ≤ c) (w : World) :
  (execOp (ev e) ⟨d, .slice t X none (some B) (some M), ty, pos, af, g⟩).run P w = .ok (.value (.slice (Yc a 0 q.toNat sz) h.toNat q.toNat)) w := by
 have hu' : P.underlying t = some (.slice (P.elem t)) := by rw [Jea hu]; exact hu
 simp only [execOp, Option.map_some, Option.map_none, hx, hb, hm, Sem.run_bind, run_sliceAt_slice w t _ _ _ _ hu', run_slice_hm w t a m c hu' kb km h q h0 h1 h2, Jea hu, hs, Result.andThen_ok, Sem.run_pure, sliced, Yc, Nat.sub_zero]
theorem Jeh {α : Type} {f : α → List Value} {ys ls : List α} {i k b : Nat} {S X : Operand} {t E T : TypeId} {I : TypeInfo} {z : Value} {sz by_ : Nat} {p : Option Addr × Nat} {m q : Nat} {cs : List Value} {xs : List (List Value)}
  (ht : P.underlying t = some (.slice E)) (hi : P.info? E = some I) (hz : I.zero = some z) (hsize : I.size = sz) (hby : I.bytes = by_) (hzs : z.cells.size = sz) (hsz : Nat.blt 0 sz = true)
  (hL : L[i]? = some (Jw E sz (.slice p.1 m p.2) m xs)) (hxs : xs = ys.map f) (hm : m = ys.length) (hs : ev e S = .slice p.1 m p.2) (hx : ev e X = .slice (some ⟨b, 0, none⟩) q q) (hk : L[k]? = some (Jp b cs T)) (hcs : (ls.map f).flatten = cs) (hq : (ls.map f).length = q)
  (hnl : ((ls.map f).all fun x => Nat.beq x.length sz) = true) (h1 : ((ls.map f).all fun x => x.all Value.oneCell') = true) (h63 : (ys ++ ls).length * by_ ≤ 140737488355328) (hb0 : Nat.blt 0 by_ = true) :
  Turns P cx e ⟨some d, .call ⟨.builtin .append, #[S, X], #[t, t]⟩, ty, pos, af, g⟩ L i [k] (fun p' : Option Addr × Nat => .slice p'.1 (ys ++ ls).length p'.2) (fun p' => Jw E sz (.slice p'.1 (ys ++ ls).length p'.2) (ys ++ ls).length ((ys ++ ls).map f)) := by
 subst hxs hm
 exact Je3 ht hi hz hsize hby hzs hsz hL hs hx hq (fun x hx => by simpa using List.all_eq_true.1 hnl x hx) (fun w L' hF hS hj => Jbi hS ((hj k (by simp)).trans hk) hcs hnl)
  (fun x hx u hu => List.all_eq_true.1 (List.all_eq_true.1 h1 x hx) u hu) (List.map_append (f := f) (l₁ := ys) (l₂ := ls)).symm (by rw [List.length_append, ← hq, List.length_map]) (by
   have hb : 1 ≤ by_ := by have : 0 < by_ := by simpa using hb0
                           omega
   have : (ys ++ ls).length * 1 ≤ (ys ++ ls).length * by_ := Nat.mul_le_mul_left _ hb
   omega) h63
theorem Jc2 {w : World} {i E sz n c : Nat} {a : Option Addr} {xs : List (List Value)} (hS : Sat cx w L) (hL : L[i]? = some (Jw E sz (.slice a n c) n xs)) : n ≤ c := by
 obtain ⟨S, ⟨⟨h1, h2, h3⟩, _⟩, _⟩ := hS.at hL
 rcases h1.2 with ⟨hv, h0⟩ | ⟨g, cap, cur, hv, _, hh, hnc, _⟩
 ·simp only [Value.slice.injEq] at hv; omega
 ·simp only [Value.slice.injEq] at hv; omega
theorem own_cut {a : Option Addr} {m c l : Nat} (sz : Nat) {x y : Nat} : (Value.slice (Yc a l m sz) x c).ownBlock = (Value.slice a y c).ownBlock := by
 unfold Yc
 cases a with
 | none => split <;> rfl
 | some a =>
  split
  ·rfl
  ·simp only [Value.ownBlock, Option.map_some, Addr.add]
   split <;> rfl
theorem imp_box {b m sz : Nat} {cs : List Value} {T E : TypeId} {xs : List (List Value)} (hT : T = E) (hcs : xs.flatten = cs) (hl : (xs.all fun x => Nat.beq x.length sz) = true) (hm : xs.length = m ∧ m ≤ 9223372036854775807) :
  Imp (Jp b cs T) (Jw E sz (.slice (some ⟨b, 0, none⟩) m m) m xs) := ⟨fun S w h => by
 subst hT hcs
 have hl' : ∀ x ∈ xs, x.length = sz := fun x hx => by simpa using List.all_eq_true.1 hl x hx
 have hf := Jcm xs hl'
 refine ⟨⟨⟨by rw [hf, hm.1], .inr ⟨b, m, _, rfl, Nat.zero_le _, h.2, Nat.le_refl _, by simpa [maxLen] using hm.2, by simp [hf, hm.1], ?_⟩⟩, hm.1, hl'⟩, fun c hc => ?_⟩
 ·rw [List.toList_toArray, List.take_of_length_le (by rw [hf, hm.1]; omega)]
 ·simp [Value.ownBlock] at hc; exact (h.1 c).2 hc.symm⟩
end rules
end Go.Vc

/- Stores into rows, strings. Conditions: those that each rule names. -/
namespace Go.Vc
open Go
section rules
variable {P : Program} {n : Nat} {cx : Cx} {Q : Va} {e : Q6} {L : List Chunk} {ops : Array Oper} {F : Q6 → List Chunk → Prop} {rest : List Oper} {ss : List Kd}
variable {d : Nat} {ty : TypeId} {pos : String} {af : Array Edge} {g : Option (Nat × Bool)}
theorem Jdz {sz : Nat} : ∀ (xs : List (List Value)) (i : Nat) (x : List Value), (∀ x ∈ xs, x.length = sz) → i < xs.length → (xs.set i x).flatten = xs.flatten.take (i * sz) ++ x ++ xs.flatten.drop ((i + 1) * sz)
 | [], i, x, _, h => by simp at h
 | y :: r, 0, x, hl, _ => by
  have hy := hl y (by simp)
  simp [hy.symm]
 | y :: r, i + 1, x, hl, h => by
  have hy := hl y (by simp)
  have ih := Jdz r i x (fun z hz => hl z (by simp [hz])) (by simpa using h)
  have e1 : (y ++ r.flatten).take ((i + 1) * sz) = y ++ r.flatten.take (i * sz) := by
   rw [List.take_append, List.take_of_length_le (l := y) (by rw [Nat.succ_mul]; omega), show (i + 1) * sz - y.length = i * sz from by rw [Nat.succ_mul]; omega]
  have e2 : (y ++ r.flatten).drop ((i + 1 + 1) * sz) = r.flatten.drop ((i + 1) * sz) := by
   rw [List.drop_append, List.drop_of_length_le (l := y) (by rw [Nat.succ_mul]; omega), show (i + 1 + 1) * sz - y.length = (i + 1) * sz from by rw [Nat.succ_mul (i + 1)]; omega, List.nil_append]
  rw [List.set_cons_succ, List.flatten_cons, ih, List.flatten_cons, e1, e2]
  simp
theorem flat_at {sz : Nat} (xs : List (List Value)) (i : Nat) (x : List Value) (hl : ∀ x ∈ xs, x.length = sz) (hx : xs[i]? = some x) : x = (xs.flatten.drop (i * sz)).take sz := by
 have hxl := hl x (List.mem_of_getElem? hx)
 refine List.ext_getElem? fun j => ?_
 rcases Nat.lt_or_ge j x.length with hj | hj
 ·have := Jct xs i x (List.all_eq_true.2 fun y hy => by simpa using hl y hy) hx j x[j] (by simp [hj])
  rw [List.getElem?_take, if_pos (by omega), List.getElem?_drop, this]
  simp [hj]
 ·rw [List.getElem?_eq_none hj, List.getElem?_take, if_neg (by omega)]
theorem set_cells {sz m i j : Nat} {cur vs : List Value} {xs : List (List Value)} {x x' : List Value} (hl : ∀ x ∈ xs, x.length = sz) (ht : cur.take (m * sz) = xs.flatten) (hm : xs.length = m) (hx : xs[i]? = some x) (hc : m * sz ≤ cur.length)
  (h1 : j + vs.length ≤ x.length) (h2 : x' = x.take j ++ vs ++ x.drop (j + vs.length)) :
  (cur.take (i * sz + j) ++ vs ++ cur.drop (i * sz + j + vs.length)).take (m * sz) = (xs.set i x').flatten := by
 have hi : i < xs.length := by
  rcases Nat.lt_or_ge i xs.length with h | h
  ·exact h
  ·simp [List.getElem?_eq_none h] at hx
 have hxl := hl x (List.mem_of_getElem? hx)
 have hle : (i + 1) * sz ≤ m * sz := Nat.mul_le_mul_right _ (by omega)
 rw [Nat.succ_mul] at hle
 have hfx := flat_at xs i x hl hx
 rw [Jdz xs i x' hl hi, h2, ← ht]
 rw [← ht] at hfx
 have hTl : (cur.take (m * sz)).length = m * sz := by simp; omega
 generalize hT : cur.take (m * sz) = T at *
 have hcur : cur = T ++ cur.drop (m * sz) := by rw [← hT, List.take_append_drop]
 have hTs : T = T.take (i * sz) ++ (x ++ T.drop ((i + 1) * sz)) := by
  conv => lhs; rw [← List.take_append_drop (i * sz) T]
  rw [hfx]
  congr 1
  rw [Nat.succ_mul, ← List.drop_drop, List.take_append_drop]
 have e1 : cur.take (i * sz + j) = T.take (i * sz) ++ x.take j := by
  rw [hcur, List.take_append_of_le_length (by omega)]
  conv => lhs; rw [hTs]
  rw [List.take_append, List.take_of_length_le (by simp; omega), List.length_take, Nat.min_eq_left (by omega), Nat.add_sub_cancel_left, List.take_append_of_le_length (by omega)]
 have e2 : cur.drop (i * sz + j + vs.length) = x.drop (j + vs.length) ++ (T.drop ((i + 1) * sz) ++ cur.drop (m * sz)) := by
  conv => lhs; rw [hcur, List.drop_append_of_le_length (by omega), hTs]
  rw [List.drop_append, List.drop_of_length_le (l := T.take (i * sz)) (by simp; omega), List.length_take, Nat.min_eq_left (by omega), Nat.add_assoc, Nat.add_sub_cancel_left, List.nil_append, List.drop_append_of_le_length (by omega)]
  simp
 rw [e1, e2]
 have e3 : T.take (i * sz) ++ List.take j x ++ vs ++ (List.drop (j + vs.length) x ++ (List.drop ((i + 1) * sz) T ++ List.drop (m * sz) cur)) = (T.take (i * sz) ++ (x.take j ++ vs ++ x.drop (j + vs.length)) ++ T.drop ((i + 1) * sz)) ++ cur.drop (m * sz) := by simp
 rw [e3, List.take_append_of_le_length, List.take_of_length_le]
 ·simp only [List.length_append, List.length_take, List.length_drop]; rw [Nat.succ_mul]; omega
 ·simp only [List.length_append, List.length_take, List.length_drop]; rw [Nat.succ_mul]; omega
theorem Jgy {T i j sz szT k m c : Nat} {A X : Operand} {x : Value} {a : Option Addr} {y y' vs : List Value} {xs : List (List Value)} {E : TypeId} {w : World} (hs : ∀ w, (sizeOf T).run P w = .ok szT w) (hp : ev e A = Ux a k) (hk : k = i * sz + j) (hx : ev e X = x) (hc : x.cells.toList = vs) (hsz : vs.length = szT)
  (hpos : Nat.blt 0 szT = true) (hone : vs.all Value.oneCell' = true) (hy : xs[i]? = some y) (hv : wr y j vs = some y') (ho : w.ownsRow 0 E sz (.slice a m c) m xs.flatten) (hm : xs.length = m) (hl : ∀ x ∈ xs, x.length = sz) :
  ∃ w', (execOp (ev e) ⟨none, .store T A X, ty, pos, af, g⟩).run P w = .ok .skip w' ∧ w'.ownsRow 0 E sz (.slice a m c) m (xs.set i y').flatten ∧ w.grownBy w' (Value.slice a m c).ownBlock := by
 have hpos' : 0 < vs.length := by rw [hsz]; simpa using hpos
 obtain ⟨h1, h2⟩ := wr_eq hv hpos'
 have hi : i < xs.length := by
  rcases Nat.lt_or_ge i xs.length with h | h
  ·exact h
  ·simp [List.getElem?_eq_none h] at hy
 rcases ho.2 with ⟨_, h0⟩ | ⟨g0, cap, cur, hv0, hb0, hh, hnc, hcm, hcs, htk⟩
 ·omega
 ·simp only [Value.slice.injEq] at hv0
  obtain ⟨rfl, _, rfl⟩ := hv0
  have hyl := hl y (List.mem_of_getElem? hy)
  have hcap : m * sz ≤ c * sz := Nat.mul_le_mul_right _ hnc
  have hle : (i + 1) * sz ≤ m * sz := Nat.mul_le_mul_right _ (by omega)
  rw [Nat.succ_mul] at hle
  have hst := run_storeCells_at P g0 k E vs 0 cur w hh (by rw [hk]; omega) (by simpa using hone)
  have hsz' : x.cells.size = szT := by rw [← hsz, ← hc]; simp
  have hp' : ev e A = .pointer (some ⟨g0, k, none⟩) := by rw [hp]; simp [Ux]
  simp only [Nat.add_zero] at hst
  refine ⟨w.setRow g0 (cur.toList.take k ++ vs ++ cur.toList.drop (k + vs.length)).toArray, by
   simp only [execOp, Instr.storeAt, Instr.sureAddr, storeVar, hp', hx, Sem.run_bind, Sem.run_pure, Result.andThen_ok, hs, hsz', ne_eq, not_true_eq_false, if_false, hc, hst], ⟨?_, .inr ⟨g0, c, _, rfl, hb0, setRow_heap w g0 cur _ E _ hh, hnc, hcm, ?_, ?_⟩⟩, ⟨rfl, rfl, rfl, by simp, fun b _ hb => setRow_other w g0 b _ (fun e => hb (by simp [Value.ownBlock, e]))⟩⟩
  ·rw [Jcm (sz := sz) _ (by
    intro z hz
    rcases List.mem_or_eq_of_mem_set hz with h | h
    ·exact hl z h
    ·subst h; rw [h2]; simp only [List.length_append, List.length_take, List.length_drop]; omega)]
   simp [hm]
  ·simp only [List.size_toArray, List.length_append, List.length_take, List.length_drop, Array.length_toList, hcs]
   rw [hk]; omega
  ·rw [List.toList_toArray, hk]
   exact set_cells hl htk hm hy (by simpa [hcs] using hcap) h1 h2
theorem l_storeR {q T i j sz szT k m c : Nat} {A X : Operand} {x : Value} {a : Option Addr} {y y' vs : List Value} {xs xs' : List (List Value)} {E : TypeId} (hs : ∀ w, (sizeOf T).run P w = .ok szT w)
  (hw : want ops ⟨none, .store T A X, ty, pos, af, g⟩ e = true) (hp : ev e A = Ux a k) (hk : k = i * sz + j) (hx : ev e X = x) (hc : x.cells.toList = vs) (hsz : vs.length = szT)
  (hpos : Nat.blt 0 szT = true) (hone : vs.all Value.oneCell' = true) (hL : L[q]? = some (Jw E sz (.slice a m c) m xs)) (hy : xs[i]? = some y) (hv : wr y j vs = some y') (hxs : xs.set i y' = xs')
  (k' : At cx (WL P n ops Q rest) e (L.set q (Jw E sz (.slice a m c) m xs'))) : At cx (WL P n ops Q (⟨none, .store T A X, ty, pos, af, g⟩ :: rest)) e L :=
 l_acts hw rfl fun w hF hS => by
  obtain ⟨S0, ⟨⟨ho, hlen, hlx⟩, hob⟩, _⟩ := hS.at hL
  obtain ⟨w', hr, h2, h3⟩ := Jgy (P := P) (ty := ty) (pos := pos) (af := af) (g := g) hs hp hk hx hc hsz hpos hone hy hv ho hlen hlx
  subst hxs
  have hpos' : 0 < vs.length := by rw [hsz]; simpa using hpos
  obtain ⟨g1, g2⟩ := wr_eq hv hpos'
  obtain ⟨hF', hS'⟩ := hS.turnOf hF hL (C := Jw E sz (.slice a m c) m (xs.set i y')) fun S1 hp => Jbu hp.2 h2 h3 (.inl rfl) (by simp [hlen]) (by
   intro z hz
   rcases List.mem_or_eq_of_mem_set hz with h | h
   ·exact hlx z h
   ·subst h; rw [g2]; have := hlx y (List.mem_of_getElem? hy); simp only [List.length_append, List.length_take, List.length_drop]; omega)
  exact ⟨w', hr, k'.out w' hF' hS'⟩
theorem Vo {T : TypeId} {I : TypeInfo} (h : ∀ w, (typeInfo T).run P w = .ok I w) : P.info? T = some I := by
 have := h default
 unfold typeInfo at this
 cases hi : P.info? T with
 | none => simp [hi] at this
 | some J => simp [hi] at this; rw [this]
theorem r_indexA {d : Option Nat} {t u len sz : Nat} {X I : Operand} {cs : Array Value} {k : IntKind} {i : Int} {v : Value} (hu : ∀ w, (underlying t).run P w = .ok (.array len u) w) (hA : ∀ w, (isAgg u).run P w = .ok false w) (hs : ∀ w, (sizeOf u).run P w = .ok sz w)
  (hx : ev e X = .agg cs) (hi : ev e I = .int k i) (h0 : 0 ≤ i) (h1 : i < len) (hv : cs[i.toNat * sz]? = some v) (w : World) :
  (execOp (ev e) ⟨d, .index t X I, ty, pos, af, g⟩).run P w = .ok (.value v) w := by
 simp [execOp, Instr.index, asIntOf, hx, hi, hu, hs, h0, h1, part, hA, hv]
theorem Jfs {d : Option Nat} {t u len sz b o : Nat} {X I : Operand} {k : IntKind} {i : Int} (hu : ∀ w, (underlying t).run P w = .ok (.array len u) w) (hs : ∀ w, (sizeOf u).run P w = .ok sz w)
  (hx : ev e X = .pointer (some ⟨b, o, none⟩)) (hi : ev e I = .int k i) (h0 : 0 ≤ i) (h1 : i < len) (w : World) :
  (execOp (ev e) ⟨d, .indexAddr t X I, ty, pos, af, g⟩).run P w = .ok (.value (.pointer (some ⟨b, o + i.toNat * sz, none⟩))) w := by
 simp [execOp, Instr.indexAt, Instr.sureAddr, hx, hi, asIntOf, hu, h0, h1, hs, Addr.add_lit]
theorem run_eqInts {d t u len : Nat} {k k' : IntKind} (us vs : List Int) (hl : us.length = len) (hl' : vs.length = len) (ht : P.underlying t = some (.array len u)) (hu : P.underlying u = some (.int k')) (hA : ∀ w, (isAgg u).run P w = .ok false w) (hs : ∀ w, (sizeOf u).run P w = .ok 1 w) (w : World) :
  (Op.equalIn (d + 2) t (.agg (us.map (Value.int k)).toArray) (.agg (vs.map (Value.int k)).toArray)).run P w = .ok (decide (us = vs)) w := by
 have key : ∀ (m s : Nat), s + m = len → us.take s = vs.take s →
   ((do
    for i in List.range' s m do
     if !(← Op.equalIn (d + 1) u (← part u (us.map (Value.int k)).toArray (i * 1)) (← part u (vs.map (Value.int k)).toArray (i * 1))) then return false
    pure true : Sem Bool)).run P w = .ok (decide (us = vs)) w := by
  intro m
  induction m with
  | zero =>
   intro s hs' ht'
   rw [List.take_of_length_le (by omega), List.take_of_length_le (by omega)] at ht'
   simp [ht']
  | succ m ih =>
   intro s hs' ht'
   have h1 : s < us.length := by omega
   have h2 : s < vs.length := by omega
   have e1 : (part u (us.map (Value.int k)).toArray (s * 1)).run P w = .ok (.int k us[s]) w := by simp [part, hA, h1]
   have e2 : (part u (vs.map (Value.int k)).toArray (s * 1)).run P w = .ok (.int k vs[s]) w := by simp [part, hA, h2]
   have e3 := run_equalIn_int (P := P) w d u k k' us[s] vs[s] hu
   rw [List.range'_succ]
   simp only [List.forIn_cons, Sem.run_bind, e1, e2, Result.andThen_ok, e3]
   by_cases he : us[s] = vs[s]
   ·have := ih (s + 1) (by omega) (by rw [List.take_add_one, List.take_add_one, ht', List.getElem?_eq_getElem h1, List.getElem?_eq_getElem h2, he])
    simp only [he, beq_self_eq_true, Bool.not_true, Bool.false_eq_true, if_false, Sem.run_pure, Result.andThen_ok]
    simp only [Sem.run_bind] at this
    exact this
   ·have hne : us ≠ vs := fun h => he (by subst h; rfl)
    have hb : (us[s] == vs[s]) = false := by simp [he]
    simp [hb, hne]
 have h0 := key len 0 (by omega) (by simp)
 rw [Op.equalIn]
 simp only [Sem.run_bind, run_underlying ht, Result.andThen_ok, hs]
 simp only [Std.Legacy.Range.forIn_eq_forIn_range', Std.Legacy.Range.size] 
 simp only [Sem.run_bind] at h0
 simpa using h0
abbrev Jk (s : List UInt8) : Value := .string ⟨s.toArray⟩
theorem Jgn (s : List UInt8) : (ByteArray.mk s.toArray).toList = s := by rw [ByteArray.toList_eq]
theorem Q2 {d : Option Nat} {X : Operand} {s : List UInt8} {t : TypeId} (hu : P.underlying t = some .string) (hx : ev e X = Jk s) (w : World) :
  (execOp (ev e) ⟨d, .call ⟨.builtin .len, #[X], #[t]⟩, ty, pos, af, g⟩).run P w = .ok (.value (.int .i64 s.length)) w := by
 rw [r_lenS hu hx]; rfl
theorem r_concat {d : Option Nat} {t t' : TypeId} {X Y : Operand} {a b : List UInt8} (hx : ev e X = Jk a) (hy : ev e Y = Jk b) (hl : a.length + b.length ≤ 9223372036854775807) (w : World) :
  (execOp (ev e) ⟨d, .binOp .add t X Y t', ty, pos, af, g⟩).run P w = .ok (.value (Jk (a ++ b))) w := by
 have h := run_string_add_sum (P := P) w (ByteArray.mk a.toArray) (ByteArray.mk b.toArray) (by simpa [ByteArray.size] using hl)
 simp [execOp, hx, hy, eqGuard, binOp_string_add, h, ByteArray.mk_append_mk]
theorem V3 {d : Option Nat} {t t' : TypeId} {X Y : Operand} {a b : List UInt8} (hx : ev e X = Jk a) (hy : ev e Y = Jk b) (w : World) :
  (execOp (ev e) ⟨d, .binOp .eql t X Y t', ty, pos, af, g⟩).run P w = .ok (.value (.bool (decide (a = b)))) w := by
 have : (a == b) = decide (a = b) := by rw [Bool.eq_iff_iff]; simp
 simp [execOp, hx, hy, eqGuard, binOp_string_eql, this]
theorem r_neqT {d : Option Nat} {t t' : TypeId} {X Y : Operand} {a b : List UInt8} (hx : ev e X = Jk a) (hy : ev e Y = Jk b) (w : World) :
  (execOp (ev e) ⟨d, .binOp .neq t X Y t', ty, pos, af, g⟩).run P w = .ok (.value (.bool (decide (a ≠ b)))) w := by
 have : (a == b) = decide (a = b) := by rw [Bool.eq_iff_iff]; simp
 simp [execOp, hx, hy, eqGuard, binOp_string_neq, this]
theorem r_indexT {d : Option Nat} {t : TypeId} {X I : Operand} {s : List UInt8} {k : IntKind} {i : Int} (hu : P.underlying t = some .string) (hx : ev e X = Jk s) (hi : ev e I = .int k i) (h0 : 0 ≤ i) (h1 : i < s.length) (w : World) :
  (execOp (ev e) ⟨d, .index t X I, ty, pos, af, g⟩).run P w = .ok (.value (.int .u8 ((s.getD i.toNat 0).toNat : Nat))) w := by
 have hlt : i.toNat < s.length := by omega
 have h : (0 ≤ i ∧ i < ((ByteArray.mk s.toArray).size : Nat)) := ⟨h0, by simpa [ByteArray.size] using h1⟩
 simp only [execOp, hx, hi, Sem.run_bind, run_index_string w t _ k i hu, dif_pos h, Result.andThen_ok, Sem.run_pure]
 have : (ByteArray.mk s.toArray)[i.toNat]'(by simpa [ByteArray.size] using hlt) = s.getD i.toNat 0 := by
  rw [List.getD_eq_getElem?_getD, List.getElem?_eq_getElem hlt]; rfl
 rw [this]
theorem Jdm (s : List UInt8) (a b : Nat) : (ByteArray.mk s.toArray).extract a b = ByteArray.mk ((s.drop a).take (b - a)).toArray := ByteArray.extract_mk s a b
theorem r_cutT {d : Option Nat} {t : TypeId} {X A B : Operand} {s : List UInt8} {ka kb : IntKind} {l h : Int} (hu : P.underlying t = some .string) (hx : ev e X = Jk s) (ha : ev e A = .int ka l) (hb : ev e B = .int kb h) (h0 : 0 ≤ l) (h1 : l ≤ h) (h2 : h ≤ s.length) (w : World) :
  (execOp (ev e) ⟨d, .slice t X (some A) (some B) none, ty, pos, af, g⟩).run P w = .ok (.value (Jk ((s.drop l.toNat).take (h.toNat - l.toNat)))) w := by
 have h' := run_slice_string (P := P) w t (ByteArray.mk s.toArray) ka kb l h hu h0 h1 (by simpa [ByteArray.size] using h2)
 simp only [execOp, Option.map_some, Option.map_none, hx, ha, hb, Sem.run_bind, run_sliceAt_string w t _ _ _ _ hu, h', Result.andThen_ok, Sem.run_pure, Jdm]
theorem r_cutTo {d : Option Nat} {t : TypeId} {X B : Operand} {s : List UInt8} {kb : IntKind} {h : Int} (hu : P.underlying t = some .string) (hx : ev e X = Jk s) (hb : ev e B = .int kb h) (h0 : 0 ≤ h) (h2 : h ≤ s.length) (w : World) :
  (execOp (ev e) ⟨d, .slice t X none (some B) none, ty, pos, af, g⟩).run P w = .ok (.value (Jk (s.take h.toNat))) w := by
 have h' := run_slice_string_to_if (P := P) w t (ByteArray.mk s.toArray) kb h hu
 rw [if_pos ⟨h0, by simpa [ByteArray.size] using h2⟩] at h'
 simp only [execOp, Option.map_some, Option.map_none, hx, hb, Sem.run_bind, run_sliceAt_string w t _ _ _ _ hu, h', Result.andThen_ok, Sem.run_pure, Jdm, List.drop_zero, Nat.sub_zero]
theorem r_cutFrom {d : Option Nat} {t : TypeId} {X A : Operand} {s : List UInt8} {ka : IntKind} {l : Int} (hu : P.underlying t = some .string) (hx : ev e X = Jk s) (ha : ev e A = .int ka l) (h0 : 0 ≤ l) (h2 : l ≤ s.length) (w : World) :
  (execOp (ev e) ⟨d, .slice t X (some A) none none, ty, pos, af, g⟩).run P w = .ok (.value (Jk (s.drop l.toNat))) w := by
 have h' := run_slice_string_from_if (P := P) w t (ByteArray.mk s.toArray) ka l hu
 rw [if_pos ⟨h0, by simpa [ByteArray.size] using h2⟩] at h'
 have hs : (ByteArray.mk s.toArray).size = s.length := by simp [ByteArray.size]
 simp only [execOp, Option.map_some, Option.map_none, hx, ha, Sem.run_bind, run_sliceAt_string w t _ _ _ _ hu, h', Result.andThen_ok, Sem.run_pure, Jdm, hs]
 rw [List.take_of_length_le (by simp)]
end rules
end Go.Vc

/- Walks that are led by a model: the rules for single operations, loops and joins, each with the guard that the model names. Conditions: none. -/
namespace Go.Lx
open Go Go.Vc Go.Md
abbrev Jt := Nat → Option Obj
def Know (h : Jt) (w : World) (S : Nat → Prop) : Prop := ∀ b o, h b = some o → w.heap[b]? = some o ∧ ¬ S b
theorem Know.now {h : Jt} {w0 w : World} {S : Nat → Prop} (k : Know h w0 S) (hF : Fr ⟨w0, S⟩ w) (b : Nat) (o : Obj) (hb : h b = some o) : w.heap[b]? = some o := by
 obtain ⟨h1, h2⟩ := k b o hb
 have hlt : b < w0.heap.size := by
  rcases Nat.lt_or_ge b w0.heap.size with h | h
  ·exact h
  ·rw [Array.getElem?_eq_none h] at h1; cases h1
 have hn : ¬ (Cx.own ⟨w0, S⟩ b) := by
  rintro (h | h)
  ·exact absurd h (by show ¬ w0.heap.size ≤ b; omega)
  ·exact h2 h
 rw [hF.block b hn]
 exact h1
def RowH (h : Jt) (a : Option Addr) (sz : Nat) (xs : List (List Value)) : Prop :=
 xs = [] ∨ ∃ b off cs T m, a = some ⟨b, off, none⟩ ∧ h b = some (.cells cs T m) ∧ ∀ (i : Nat) (x : List Value), xs[i]? = some x → x.length = sz ∧ ∀ (j : Nat) (v : Value), x[j]? = some v → cs[off + i * sz + j]? = some v
theorem RowH.row {h : Jt} {w : World} {a : Option Addr} {sz : Nat} {xs : List (List Value)} (r : RowH h a sz xs) (k : ∀ b o, h b = some o → w.heap[b]? = some o) : Row w a sz xs := by
 rcases r with r | ⟨b, off, cs, T, m, ha, hb, r⟩
 ·exact .inl r
 ·refine .inr ⟨b, off, ha, fun i x hx => ⟨(r i x hx).1, fun j v hv => ?_⟩⟩
  have := (r i x hx).2 j v hv
  simp [World.cell?, k b _ hb, this]
structure FrS (h : Jt) (sz : Nat) (v : Value) (xs : List (List Value)) : Prop where
 out : ∃ a c, v = .slice a xs.length c ∧ xs.length ≤ c ∧ c ≤ 9223372036854775807 ∧ RowH h a sz xs
def sa : Value → Option Addr | .slice a _ _ => a | _ => none
def sc : Value → Nat | .slice _ _ c => c | _ => 0
theorem FrS.eq {h : Jt} {sz : Nat} {v : Value} {xs : List (List Value)} (f : FrS h sz v xs) : v = .slice (sa v) xs.length (sc v) := by
 obtain ⟨a, c, rfl, _⟩ := f.out; rfl
theorem FrS.len {h : Jt} {sz : Nat} {v : Value} {xs : List (List Value)} (f : FrS h sz v xs) : xs.length ≤ sc v ∧ sc v ≤ 9223372036854775807 := by
 obtain ⟨a, c, rfl, h1, h2, _⟩ := f.out; exact ⟨h1, h2⟩
theorem FrS.row {h : Jt} {sz : Nat} {v : Value} {xs : List (List Value)} (f : FrS h sz v xs) {w : World} (k : ∀ b o, h b = some o → w.heap[b]? = some o) : Row w (sa v) sz xs := by
 obtain ⟨a, c, rfl, _, _, r⟩ := f.out; exact r.row k
theorem FrS.nil (h : Jt) (sz : Nat) : FrS h sz (.slice none 0 0) [] := ⟨none, 0, rfl, by simp, by simp, .inl rfl⟩
theorem RowH.cut {h : Jt} {a : Option Addr} {sz : Nat} {xs : List (List Value)} (r : RowH h a sz xs) (l q m : Nat) (hq : l + q ≤ m) : RowH h (Yc a l m sz) sz ((xs.drop l).take q) := by
 rcases r with r | ⟨b, off, cs, T, m', rfl, hb, r⟩
 ·subst r; exact .inl (by simp)
 ·unfold Yc
  by_cases hm : m = l
  ·have hq0 : q = 0 := by omega
   subst hq0
   exact .inl (by simp)
  ·rw [if_neg hm]
   refine .inr ⟨b, off + l * sz, cs, T, m', by simp [Addr.add_lit], hb, fun i x hx => ?_⟩
   rw [List.getElem?_take] at hx
   split at hx
   ·rw [List.getElem?_drop] at hx
    obtain ⟨h1, h2⟩ := r (l + i) x hx
    refine ⟨h1, fun j v hv => ?_⟩
    have := h2 j v hv
    rw [show off + l * sz + i * sz + j = off + (l + i) * sz + j from by rw [Nat.add_mul]; omega]
    exact this
   ·cases hx
def cutV (sz : Nat) (v : Value) (l h : Int) : Value := .slice (Yc (sa v) l.toNat (sc v) sz) (h.toNat - l.toNat) (sc v - l.toNat)
theorem FrS.cut {α : Type} {h : Jt} {sz : Nat} {v : Value} {f : α → List Value} {xs ys : List α} {l q : Int} (s : FrS h sz v (xs.map f)) (e : Qd xs l q = some ys) : FrS h sz (cutV sz v l q) (ys.map f) := by
 obtain ⟨a, c, rfl, h1, h2, r⟩ := s.out
 obtain ⟨g0, g1, g2, rfl⟩ := Zk e
 have hl : ((xs.drop l.toNat).take (q.toNat - l.toNat)).length = q.toNat - l.toNat := by
  rw [List.length_take, List.length_drop]; omega
 simp only [List.length_map] at h1
 refine ⟨⟨Yc a l.toNat c sz, c - l.toNat, ?_, ?_, by omega, ?_⟩⟩
 ·simp only [cutV, sa, sc, List.length_map, hl]
 ·rw [List.length_map, hl]; omega
 ·rw [List.map_take, List.map_drop]
  exact r.cut _ _ _ (by omega)
theorem FrS.mono {h h' : Jt} {sz : Nat} {v : Value} {xs : List (List Value)} (s : FrS h sz v xs) (le : ∀ b o, h b = some o → h' b = some o) : FrS h' sz v xs := by
 obtain ⟨a, c, rfl, h1, h2, r⟩ := s.out
 refine ⟨a, c, rfl, h1, h2, ?_⟩
 rcases r with r | ⟨b, off, cs, T, m, ha, hb, r⟩
 ·exact .inl r
 ·exact .inr ⟨b, off, cs, T, m, ha, le b _ hb, r⟩
section ops
variable {P : Program} {e : Q6} {d : Option Nat} {ty : TypeId} {pos : String} {af : Array Edge} {g : Option (Nat × Bool)}
section bin
variable {X Y : Operand} {x y z : Int} {t t' : TypeId} {kd k2 : IntKind}
theorem Qe (hx : ev e X = .int .i64 x) (hy : ev e Y = .int .i64 y) (h : gI (x + y) = some z) (w : World) :
  (execOp (ev e) ⟨d, .binOp .add t X Y t', ty, pos, af, g⟩).run P w = .ok (.value (.int .i64 z)) w := by
 obtain ⟨rfl, hb⟩ := gI_some h; exact r_add hx hy hb w
theorem Ym (hx : ev e X = .int .i64 x) (hy : ev e Y = .int .i64 y) (h : gI (x - y) = some z) (w : World) :
  (execOp (ev e) ⟨d, .binOp .sub t X Y t', ty, pos, af, g⟩).run P w = .ok (.value (.int .i64 z)) w := by
 obtain ⟨rfl, hb⟩ := gI_some h; exact r_sub hx hy hb w
theorem r_remG (hx : ev e X = .int kd x) (hy : ev e Y = .int kd y) (h : gRem x y = some z) (w : World) :
  (execOp (ev e) ⟨d, .binOp .rem t X Y t', ty, pos, af, g⟩).run P w = .ok (.value (.int kd z)) w := by
 obtain ⟨h0, rfl⟩ := gRem_some h; exact r_rem hx hy h0 w
end bin
theorem X4 {X : Operand} {t u sz : TypeId} {h : Jt} {v : Value} {xs : List (List Value)} {α : Type} {ys : List α} {f : α → List Value} (hu : P.underlying t = some (.slice u)) (hx : ev e X = v) (hs : FrS h sz v xs) (hxs : xs = ys.map f) (w : World) :
  (execOp (ev e) ⟨d, .call ⟨.builtin .len, #[X], #[t]⟩, ty, pos, af, g⟩).run P w = .ok (.value (.int .i64 ys.length)) w := by
 have := Wx (P := P) (d := d) (ty := ty) (pos := pos) (af := af) (g := g) hu (hx.trans hs.eq) w
 rw [this, hxs, List.length_map]
theorem J4 {X I : Operand} {t u sz : Nat} {h : Jt} {v : Value} {α : Type} {f : α → List Value} {xs : List α} {x : α} {k : IntKind} {i : Int} (hu : P.underlying t = some (.slice u)) (hs : ∀ w, (sizeOf u).run P w = .ok sz w)
  (hx : ev e X = v) (hi : ev e I = .int k i) (hf : FrS h sz v (xs.map f)) (hg : Qk xs i = some x) (w : World) :
  (execOp (ev e) ⟨d, .indexAddr t X I, ty, pos, af, g⟩).run P w = .ok (.value (Ux (sa v) (i.toNat * sz))) w := by
 obtain ⟨h0, h1, h2⟩ := Xg hg
 obtain ⟨a, c, rfl, _, _, r⟩ := hf.out
 have ha : ∃ b off, a = some ⟨b, off, none⟩ := by
  rcases r with r | ⟨b, off, cs, T, m, ha, _⟩
  ·simp at r; subst r; simp at h1
  ·exact ⟨b, off, ha⟩
 exact r_index hu hs hx hi ha h0 (by rw [List.length_map]; omega) w
theorem Ja7 {h : Jt} {sz : Nat} {v : Value} {α : Type} {f : α → List Value} {xs : List α} {x : α} {i : Int} (hf : FrS h sz v (xs.map f)) (hg : Qk xs i = some x) : ∃ b off, sa v = some ⟨b, off, none⟩ := by
 obtain ⟨h0, h1, h2⟩ := Xg hg
 obtain ⟨a, c, rfl, _, _, r⟩ := hf.out
 rcases r with r | ⟨b, off, cs, T, m, ha, _⟩
 ·simp at r; subst r; simp at h1
 ·exact ⟨b, off, ha⟩
theorem map_at {α : Type} {f : α → List Value} {xs : List α} {x : α} {i : Int} (hg : Qk xs i = some x) : (xs.map f)[i.toNat]? = some (f x) := by
 obtain ⟨h0, h1, h2⟩ := Xg hg
 rw [List.getElem?_map, h2]; rfl
theorem X5 {X I : Operand} {a : Option Addr} {m c : Nat} {t u sz sz' : Nat} {k : IntKind} {i : Int} {α : Type} {f : α → List Value} {xs : List α} {x : α} {w : World} (hu : P.underlying t = some (.slice u)) (hs : ∀ w, (sizeOf u).run P w = .ok sz w)
  (hx : ev e X = .slice a m c) (hi : ev e I = .int k i) (hR : Row w a sz' (xs.map f)) (hm : m = xs.length) (hg : Qk xs i = some x) :
  (execOp (ev e) ⟨d, .indexAddr t X I, ty, pos, af, g⟩).run P w = .ok (.value (Ux a (i.toNat * sz))) w := by
 obtain ⟨h0, h1, h2⟩ := Xg hg
 exact r_index hu hs hx hi (hR.some (i := i.toNat) (by simpa using h1)) h0 (by omega) w
theorem Ju {T k : Nat} {a : Option Addr} {A : Operand} {sz j : Nat} {α : Type} {f : α → List Value} {xs : List α} {x : α} {i : Int} {v : Value} {w : World} (hA : ∀ w, (isAgg T).run P w = .ok false w)
  (hp : ev e A = Ux a k) (hk : k = i.toNat * sz + j) (hr : Row w a sz (xs.map f)) (hg : Qk xs i = some x) (hv : rg (f x) j = some v) :
  (execOp (ev e) ⟨d, .load T A, ty, pos, af, g⟩).run P w = .ok (.value v) w :=
 run_loadP1 (i := i.toNat) (j := j) hA hp hk hr (map_at hg) hv
theorem X2 {T k m : Nat} {a : Option Addr} {A : Operand} {sz j : Nat} {α : Type} {f : α → List Value} {xs : List α} {x : α} {i : Int} {vs : List Value} {w : World} (hA : ∀ w, (isAgg T).run P w = .ok true w) (hs : ∀ w, (sizeOf T).run P w = .ok m w)
  (hp : ev e A = Ux a k) (hk : k = i.toNat * sz + j) (hr : Row w a sz (xs.map f)) (hg : Qk xs i = some x) (hv : rd (f x) j m = some vs) :
  (execOp (ev e) ⟨d, .load T A, ty, pos, af, g⟩).run P w = .ok (.value (.agg vs.toArray)) w :=
 run_loadPN (i := i.toNat) (j := j) hA hs hp hk hr (map_at hg) hv
theorem Yq {t t' : TypeId} {X Y : Operand} {a b c : List UInt8} (hx : ev e X = Jk a) (hy : ev e Y = Jk b) (h : Vi a b = some c) (w : World) :
  (execOp (ev e) ⟨d, .binOp .add t X Y t', ty, pos, af, g⟩).run P w = .ok (.value (Jk c)) w := by
 obtain ⟨rfl, hl⟩ := gCat_some h; exact r_concat hx hy hl w
theorem W1 {t : TypeId} {X I : Operand} {s : List UInt8} {k : IntKind} {i c : Int} (hu : P.underlying t = some .string) (hx : ev e X = Jk s) (hi : ev e I = .int k i) (h : Uw s i = some c) (w : World) :
  (execOp (ev e) ⟨d, .index t X I, ty, pos, af, g⟩).run P w = .ok (.value (.int .u8 c)) w := by
 obtain ⟨h0, h1, rfl⟩ := gOct_some h; exact r_indexT hu hx hi h0 h1 w
theorem r_cutTG {t : TypeId} {X A B : Operand} {s u : List UInt8} {ka kb : IntKind} {l h : Int} (hu : P.underlying t = some .string) (hx : ev e X = Jk s) (ha : ev e A = .int ka l) (hb : ev e B = .int kb h) (hg : Qd s l h = some u) (w : World) :
  (execOp (ev e) ⟨d, .slice t X (some A) (some B) none, ty, pos, af, g⟩).run P w = .ok (.value (Jk u)) w := by
 obtain ⟨h0, h1, h2, rfl⟩ := Zk hg; exact r_cutT hu hx ha hb h0 h1 h2 w
theorem Jbv {t : TypeId} {X B : Operand} {s u : List UInt8} {kb : IntKind} {h : Int} (hu : P.underlying t = some .string) (hx : ev e X = Jk s) (hb : ev e B = .int kb h) (hg : Qd s 0 h = some u) (w : World) :
  (execOp (ev e) ⟨d, .slice t X none (some B) none, ty, pos, af, g⟩).run P w = .ok (.value (Jk u)) w := by
 obtain ⟨h0, h1, h2, rfl⟩ := Zk hg
 have := r_cutTo (P := P) (d := d) (ty := ty) (pos := pos) (af := af) (g := g) hu hx hb h1 h2 w
 simpa using this
theorem We {t : TypeId} {X A : Operand} {s u : List UInt8} {ka : IntKind} {l : Int} (hu : P.underlying t = some .string) (hx : ev e X = Jk s) (ha : ev e A = .int ka l) (hg : Qd s l s.length = some u) (w : World) :
  (execOp (ev e) ⟨d, .slice t X (some A) none none, ty, pos, af, g⟩).run P w = .ok (.value (Jk u)) w := by
 obtain ⟨h0, h1, h2, rfl⟩ := Zk hg
 have := r_cutFrom (P := P) (d := d) (ty := ty) (pos := pos) (af := af) (g := g) hu hx ha h0 h1 w
 rw [this, List.take_of_length_le (by simp)]
end ops
section rules
variable {P : Program} {n : Nat} {cx : Cx} {Q : Va} {e : Q6} {L : List Chunk} {ops : Array Oper} {F : Q6 → List Chunk → Prop} {rest : List Oper} {ss : List Kd}
structure RoundA {σ τ : Type} (cx : Cx) (st : σ → τ → List (Nat × Value)) (hp : σ → τ → List Chunk) (I : σ → τ → Nat → Prop) (m : Nat) (e : Q6) (w : World) : Prop where
 out : ∃ s t k, Jez e (st s t) ∧ Fr cx w ∧ Sat cx w (hp s t) ∧ I s t k ∧ k < m
theorem Xb {σ τ ρ : Type} {c : Code} {r : ρ} (B : (σ → Option ρ) → σ → Option ρ) (st : σ → τ → List (Nat × Value)) (hp : σ → τ → List Chunk) (G : σ → τ → Prop) (s0 : σ) (t0 : τ) (sel : List Nat)
  (H : Zp B s0 = some r) (hG : G s0 t0) (hst : Jez e (st s0 t0)) (hnd : sel.Nodup) (hL : sel.map (fun i => L[i]?) = (hp s0 t0).map some)
  (round : ∀ (s : σ) (t : τ) (m : Nat) (g : Q6), B (it B m) s = some r → G s t →
   At cx (WC P n c (ThenQ (RoundA cx st hp (fun s t k => it B k s = some r ∧ G s t) (m + 1)) Q)) (mkE (st s t) g) (hp s t)) :
  At cx (WC P n (.loop c) Q) e L :=
 ⟨fun w hF hS => ⟨fun a ha => by
  obtain ⟨m0, hm0⟩ := fix_it H
  refine wp_loop_ghost (fun m a' w' => ∃ e' s t, Sim n a' e' ∧ Jez e' (st s t) ∧ Fr cx w' ∧ Sat cx w' (hp s t) ∧ it B m s = some r ∧ G s t) m0 ⟨e, s0, t0, ha, hst, hF, hS.select sel hnd hL, hm0, hG⟩ ?_
  rintro m a w ⟨e', s, t, ha, hst, hF, hS, hI, hg⟩
  cases m with
  | zero => cases hI
  | succ m =>
   have hr := ((round s t m e' hI hg).out w hF hS).out a (by rw [Jgh e' _ hst]; exact ha)
   refine wp_mono hr ?_
   rintro x a' w' ⟨e'', hs', hq⟩
   cases x with
   | normal =>
    obtain ⟨s', t', m', h1, h3, h4, ⟨h5, h7⟩, h6⟩ := hq.out
    exact ⟨m', h6, e'', s', t', hs', h1, h3, h4, h5, h7⟩
   | exit i => exact ⟨e'', hs', hq⟩
   | goto i => exact ⟨e'', hs', hq⟩
   | ret => exact ⟨e'', hs', hq⟩
   | panic i => exact ⟨e'', hs', hq⟩
   | outgrown => exact ⟨e'', hs', hq⟩⟩⟩
theorem c_close {σ τ : Type} {st : σ → τ → List (Nat × Value)} {hp : σ → τ → List Chunk} {I : σ → τ → Nat → Prop} {m : Nat} (s : σ) (t : τ) (k : Nat) (sel : List Nat) (hst : Jez e (st s t)) (hnd : sel.Nodup) (hL : sel.map (fun i => L[i]?) = (hp s t).map some) (hI : I s t k) (hm : k < m) :
  At cx (RoundA cx st hp I m) e L :=
 ⟨fun _ hF hS => ⟨s, t, k, hst, hF, hS.select sel hnd hL, hI, hm⟩⟩
theorem Qi {σ τ ρ : Type} {x y : Code} {r : ρ} (J : σ → Option ρ) (st : σ → τ → List (Nat × Value)) (hp : σ → τ → List Chunk) (G : σ → τ → Prop)
  (h1 : At cx (WC P n x (ThenQ (RoundA cx st hp (fun s t _ => J s = some r ∧ G s t) 1) Q)) e L)
  (h2 : ∀ (s : σ) (t : τ) (g : Q6), J s = some r → G s t → At cx (WC P n y Q) (mkE (st s t) g) (hp s t)) : At cx (WC P n (.seq x y) Q) e L :=
 Jb ⟨fun w hF hS => ⟨fun a ha => Code.wp_mono (fun x' a' w' hq => by
  obtain ⟨e', hs, hq⟩ := hq
  cases x' with
  | normal =>
   obtain ⟨s, t, m, g1, g3, g4, ⟨g5, g7⟩, _⟩ := hq.out
   exact ⟨e', hs, by
    have := (h2 s t e' g5 g7).out w' g3 g4
    rwa [Jgh e' _ g1] at this⟩
  | exit i => exact ⟨e', hs, hq⟩
  | goto i => exact ⟨e', hs, hq⟩
  | ret => exact ⟨e', hs, hq⟩
  | panic i => exact ⟨e', hs, hq⟩
  | outgrown => exact ⟨e', hs, hq⟩) ((h1.out w hF hS).out a ha)⟩⟩
theorem Jr (w : World) : Know (fun b => w.heap[b]?) w Yt := fun b o h => ⟨h, fun x => x⟩
theorem Jap {α : Type} {w : World} {i E sz n : Nat} {p : Option Addr × Nat} {xs : List α} {f : α → List Value} (hn : n = xs.length) (hS : Sat cx w L) (hL : L[i]? = some (Jw E sz (.slice p.1 n p.2) n (xs.map f))) : FrS (fun b => w.heap[b]?) sz (.slice p.1 n p.2) (xs.map f) := by
 subst hn
 obtain ⟨S, ⟨⟨h1, h2, h3⟩, _⟩, _⟩ := hS.at hL
 have hr := Jd0 h1 h2 h3
 rcases h1.2 with ⟨hv, h0⟩ | ⟨g, cap, cur, hv, _, hh, hnc, hm, hcs, ht⟩
 ·simp only [Value.slice.injEq] at hv
  have hxs : xs = [] := List.eq_nil_of_length_eq_zero h0
  subst hxs
  refine ⟨⟨p.1, p.2, by simp, by simp, by omega, .inl (by simp)⟩⟩
 ·simp only [Value.slice.injEq] at hv
  obtain ⟨hp, _, hc⟩ := hv
  refine ⟨⟨p.1, p.2, by simp, by rw [List.length_map, hc]; exact hnc, by rw [hc]; simpa [maxLen] using hm, ?_⟩⟩
  rcases hr with hr | ⟨b, off, ha, hr⟩
  ·exact .inl hr
  ·rw [hp] at ha
   simp only [Option.some.injEq, Addr.mk.injEq] at ha
   obtain ⟨rfl, rfl, _⟩ := ha
   refine .inr ⟨g, 0, cur, E, _, hp, hh, fun i x hx => ⟨(hr i x hx).1, fun j v hv => ?_⟩⟩
   have := (hr i x hx).2 j v hv
   simpa [World.cell?, hh] using this
theorem frs_box {α : Type} {w : World} {i b m T sz : Nat} {cs : List Value} {xs : List α} {f : α → List Value} (hS : Sat cx w L) (hL : L[i]? = some (Jp b cs T)) (hcs : (xs.map f).flatten = cs) (hl : ((xs.map f).all fun x => Nat.beq x.length sz) = true) (hm : xs.length = m) (hm' : Nat.ble m 9223372036854775807 = true) :
  FrS (fun b => w.heap[b]?) sz (.slice (some ⟨b, 0, none⟩) m m) (xs.map f) := by
 subst hm
 refine ⟨⟨some ⟨b, 0, none⟩, xs.length, by simp, by simp, by simpa using hm', .inr ⟨b, 0, cs.toArray, T, (0, 0), rfl, Y6 hS hL, fun i x hx => ⟨?_, fun j v hv => ?_⟩⟩⟩⟩
 ·have := List.all_eq_true.1 hl x (List.mem_of_getElem? hx)
  simpa using this
 ·have := Jct _ i x hl hx j v hv
  rw [hcs] at this
  simpa using this
end rules
end Go.Lx
