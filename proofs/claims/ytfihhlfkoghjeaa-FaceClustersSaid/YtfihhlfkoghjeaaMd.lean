/- Models: partial functions in plain Lean that stand for Go functions, the guards of single operations, and one way to loop and to recur. Conditions: none. -/
import GoSem.Step
import Derived.Shelf.Small.Bits
import Derived.Shelf.Strconv.Itoa0
import Derived.Shelf.Sort.Plain
import Derived.Ground.SlsfProg
import Derived.Shelf.SlSortCmp.Insertion
import Derived.Shelf.SlSortCmp.SiftDown1
import Derived.Shelf.SlSortCmp.HeapSort1
import Derived.Shelf.SlSortCmp.Insertion1
import Derived.Shelf.SlSortCmp.Median1
import Derived.Shelf.SlSortCmp.Pivot1
import Derived.Shelf.SlSortCmp.ReverseRange1
import Derived.Shelf.SlSortCmp.PartitionEqual1
import Derived.Test.YtfihhlfkoghjeaaProg
import Derived.Orders
import Derived.Tactics
import Derived.Below
import Derived.KernelRfl
import Derived.Laws.Cells
import Derived.Laws.CopyRow
import Derived.Laws.Externs
import Derived.IntWalk
import Derived.Deep.LoopGhost
import Derived.LoopN
import Derived.Laws.StructEq
import Derived.Maps.AppendAt
import Derived.Laws.OwnMore
import Derived.Laws.Slices
import Derived.Laws.Strings3
import Derived.Laws.Concat
import Derived.Lib.AppendStr
import Derived.Laws.BytesString
import Derived.Laws.RangeString
import Derived.Laws.IdiomCopy
import Derived.Lib.UnsafeStr
import Derived.Lib.Builder
import Derived.Laws.Pointers
import Derived.Lib.AppendZeros
set_option linter.unusedVariables false
namespace Go.Md

def bnd {α β : Type} (m : Option α) (k : α → Option β) : Option β :=
  match m with
  | some a => k a
  | none => none

theorem bnd_some {α β : Type} {m : Option α} {k : α → Option β} {r : β} (h : bnd m k = some r) : ∃ a, m = some a ∧ k a = some r := by
  cases m with
  | none => cases h
  | some a => exact ⟨a, rfl, h⟩

@[simp] theorem bnd_pure {α β : Type} (a : α) (k : α → Option β) : bnd (some a) k = k a := rfl
@[simp] theorem bnd_none {α β : Type} (k : α → Option β) : bnd none k = none := rfl

def val {α : Type} [Inhabited α] (m : Option α) : α := m.getD default

theorem bnd_val {α β : Type} [Inhabited α] {m : Option α} {k : α → Option β} {r : β} (h : bnd m k = some r) : m = some (val m) := by
  cases m with
  | none => cases h
  | some a => rfl
theorem bnd_rest {α β : Type} [Inhabited α] {m : Option α} {k : α → Option β} {r : β} (h : bnd m k = some r) : k (val m) = some r := by
  cases m with
  | none => cases h
  | some a => exact h

def cnd {α : Type} (b : Bool) (x y : Option α) : Option α := match b with | true => x | false => y

theorem cnd_t {α : Type} {b : Bool} {x y : Option α} {r : Option α} (hb : b = true) (h : cnd b x y = r) : x = r := by subst hb; exact h
theorem cnd_f {α : Type} {b : Bool} {x y : Option α} {r : Option α} (hb : b = false) (h : cnd b x y = r) : y = r := by subst hb; exact h
@[simp] theorem cnd_true {α : Type} (x y : Option α) : cnd true x y = x := rfl
@[simp] theorem cnd_false {α : Type} (x y : Option α) : cnd false x y = y := rfl
theorem cnd_if {α : Type} (p : Prop) [Decidable p] (x y : Option α) : cnd (decide p) x y = if p then x else y := by
  by_cases h : p <;> simp [h]


def it {α ρ : Type} (F : (α → Option ρ) → α → Option ρ) : Nat → α → Option ρ
  | 0, _ => none
  | n + 1, a => F (it F n) a

open Classical in
noncomputable def fix {α ρ : Type} (F : (α → Option ρ) → α → Option ρ) (a : α) : Option ρ :=
  if h : ∃ r k, ∀ n, k ≤ n → it F n a = some r then some (Classical.choose h) else none

theorem fix_it {α ρ : Type} {F : (α → Option ρ) → α → Option ρ} {a : α} {r : ρ} (h : fix F a = some r) : ∃ n, it F n a = some r := by
  unfold fix at h
  split at h
  · rename_i hh
    cases h
    obtain ⟨k, hk⟩ := Classical.choose_spec hh
    exact ⟨k, hk k (Nat.le_refl _)⟩
  · cases h

theorem fix_ev {α ρ : Type} {F : (α → Option ρ) → α → Option ρ} {a : α} {o : Option ρ} {k : Nat} (h : ∀ n, k ≤ n → it F n a = o) : fix F a = o := by
  unfold fix
  cases o with
  | some r =>
    have hh : ∃ r k, ∀ n, k ≤ n → it F n a = some r := ⟨r, k, h⟩
    rw [dif_pos hh]
    obtain ⟨k', hk'⟩ := Classical.choose_spec hh
    have h1 := hk' (max k k') (Nat.le_max_right _ _)
    rw [h _ (Nat.le_max_left _ _)] at h1
    exact h1.symm
  | none =>
    rw [dif_neg]
    rintro ⟨r, k', hk'⟩
    have h1 := hk' (max k k') (Nat.le_max_right _ _)
    rw [h _ (Nat.le_max_left _ _)] at h1
    cases h1

theorem fix_of {α ρ : Type} {F : (α → Option ρ) → α → Option ρ} (spec : α → Option ρ) (I : α → Prop) (μ : α → Nat)
    (step : ∀ (next : α → Option ρ) (a : α), I a → (∀ b, I b → μ b < μ a → next b = spec b) → F next a = spec a) (a : α) (ha : I a) : fix F a = spec a := by
  have key : ∀ (n : Nat) (a : α), I a → μ a < n → it F n a = spec a := by
    intro n
    induction n with
    | zero => intro a _ h; omega
    | succ n ih => intro a ha h; exact step _ a ha fun b hb hlt => ih b hb (by omega)
  exact fix_ev (k := μ a + 1) fun n hn => key n a ha (by omega)

theorem it_ev {α ρ : Type} {F : (α → Option ρ) → α → Option ρ} {a b : α} (h : ∀ next, F next a = next b) : fix F a = fix F b := by
  by_cases hb : ∃ r k, ∀ n, k ≤ n → it F n b = some r
  · obtain ⟨r, k, hk⟩ := hb
    rw [fix_ev (o := some r) (k := k) hk, fix_ev (o := some r) (k := k + 1)]
    intro n hn
    cases n with
    | zero => omega
    | succ n => show F (it F n) a = some r; rw [h]; exact hk n (by omega)
  · have ha : ¬ ∃ r k, ∀ n, k ≤ n → it F n a = some r := by
      rintro ⟨r, k, hk⟩
      exact hb ⟨r, k, fun n hn => by have := hk (n + 1) (by omega); rw [show it F (n + 1) a = F (it F n) a from rfl, h] at this; exact this⟩
    unfold fix
    rw [dif_neg hb, dif_neg ha]

theorem fix_goto {α ρ : Type} {F : (α → Option ρ) → α → Option ρ} {a : α} (b : α) (h : ∀ next, F next a = next b) : fix F a = fix F b := it_ev h
theorem fix_done {α ρ : Type} {F : (α → Option ρ) → α → Option ρ} {a : α} {o : Option ρ} (h : ∀ next, F next a = o) : fix F a = o :=
  fix_ev (k := 1) fun n hn => by
    cases n with
    | zero => omega
    | succ n => exact h _


def gI (x : Int) : Option Int := if -9223372036854775808 ≤ x ∧ x ≤ 9223372036854775807 then some x else none
theorem gI_some {x y : Int} (h : gI x = some y) : y = x ∧ -9223372036854775808 ≤ x ∧ x ≤ 9223372036854775807 := by
  unfold gI at h; split at h
  · cases h; exact ⟨rfl, ‹_›⟩
  · cases h
theorem gI_ok {x : Int} (h : -9223372036854775808 ≤ x ∧ x ≤ 9223372036854775807) : gI x = some x := if_pos h

def gAt {α : Type} (xs : List α) (i : Int) : Option α := if 0 ≤ i then xs[i.toNat]? else none
theorem gAt_some {α : Type} {xs : List α} {i : Int} {x : α} (h : gAt xs i = some x) : 0 ≤ i ∧ i.toNat < xs.length ∧ xs[i.toNat]? = some x := by
  unfold gAt at h; split at h
  · refine ⟨‹_›, ?_, h⟩
    rcases Nat.lt_or_ge i.toNat xs.length with h' | h'
    · exact h'
    · rw [List.getElem?_eq_none h'] at h; cases h
  · cases h
theorem gAt_nat {α : Type} {xs : List α} {k : Nat} (h : k < xs.length) : gAt xs (k : Int) = some xs[k] := by
  unfold gAt; rw [if_pos (by omega), Int.toNat_natCast, List.getElem?_eq_getElem h]
theorem gAt_ok {α : Type} {xs : List α} {i : Int} (h0 : 0 ≤ i) (h : i.toNat < xs.length) : gAt xs i = some xs[i.toNat] := by
  unfold gAt; rw [if_pos h0, List.getElem?_eq_getElem h]

def gCut {α : Type} (xs : List α) (l h : Int) : Option (List α) := if 0 ≤ l ∧ l ≤ h ∧ h ≤ xs.length then some ((xs.drop l.toNat).take (h.toNat - l.toNat)) else none
theorem gCut_some {α : Type} {xs ys : List α} {l h : Int} (e : gCut xs l h = some ys) : 0 ≤ l ∧ l ≤ h ∧ h ≤ xs.length ∧ ys = (xs.drop l.toNat).take (h.toNat - l.toNat) := by
  unfold gCut at e; split at e
  · cases e; rename_i h; exact ⟨h.1, h.2.1, h.2.2, rfl⟩
  · cases e
theorem gCut_ok {α : Type} {xs : List α} {l h : Int} (h0 : 0 ≤ l ∧ l ≤ h ∧ h ≤ xs.length) : gCut xs l h = some ((xs.drop l.toNat).take (h.toNat - l.toNat)) := if_pos h0
def gApp {α : Type} (by_ : Nat) (xs ys : List α) : Option (List α) := if xs.length + ys.length ≤ 140737488355328 ∧ (xs.length + ys.length) * by_ ≤ 140737488355328 then some (xs ++ ys) else none
theorem gApp_some {α : Type} {by_ : Nat} {xs ys zs : List α} (h : gApp by_ xs ys = some zs) : zs = xs ++ ys ∧ xs.length + ys.length ≤ 140737488355328 ∧ (xs.length + ys.length) * by_ ≤ 140737488355328 := by
  unfold gApp at h; split at h
  · cases h; exact ⟨rfl, ‹_›⟩
  · cases h
theorem gApp_ok {α : Type} {by_ : Nat} {xs ys : List α} (h : xs.length + ys.length ≤ 140737488355328 ∧ (xs.length + ys.length) * by_ ≤ 140737488355328) : gApp by_ xs ys = some (xs ++ ys) := if_pos h

def gMake {α : Type} (by_ : Nat) (n : Int) (z : α) : Option (List α) := if 0 ≤ n ∧ n ≤ 140737488355328 ∧ by_ * n.toNat ≤ 140737488355328 then some (List.replicate n.toNat z) else none
theorem gMake_some {α : Type} {by_ : Nat} {n : Int} {z : α} {zs : List α} (h : gMake by_ n z = some zs) : 0 ≤ n ∧ n ≤ 140737488355328 ∧ by_ * n.toNat ≤ 140737488355328 ∧ zs = List.replicate n.toNat z := by
  unfold gMake at h; split at h
  · cases h; rename_i h; exact ⟨h.1, h.2.1, h.2.2, rfl⟩
  · cases h

def wU64 (x : Int) : Int := x % 18446744073709551616
def wI64 (x : Int) : Int := if 9223372036854775808 ≤ x % 18446744073709551616 then x % 18446744073709551616 - 18446744073709551616 else x % 18446744073709551616

theorem wI64_in {x : Int} (h : -9223372036854775808 ≤ x ∧ x ≤ 9223372036854775807) : wI64 x = x := by unfold wI64; split <;> omega
theorem wU64_in {x : Int} (h : 0 ≤ x ∧ x ≤ 18446744073709551615) : wU64 x = x := by unfold wU64; omega
def gShr (bits : Nat) (x y : Int) : Option Int := if 0 ≤ y then some (x / 2 ^ min y.toNat bits) else none

def gIx (n : Nat) (i : Int) : Option Nat := if 0 ≤ i ∧ i < n then some i.toNat else none
theorem gIx_some {n k : Nat} {i : Int} (h : gIx n i = some k) : 0 ≤ i ∧ i < n ∧ k = i.toNat := by
  unfold gIx at h; split at h
  · cases h; rename_i h; exact ⟨h.1, h.2, rfl⟩
  · cases h
theorem gIx_lt {n k : Nat} {i : Int} (h : gIx n i = some k) : k < n := by
  obtain ⟨h0, h1, rfl⟩ := gIx_some h; omega
theorem gIx_nat {n k : Nat} (h : k < n) : gIx n (k : Int) = some k := by unfold gIx; rw [if_pos (by omega)]; rfl
def ofL {α : Type} [Inhabited α] (l : List α) (j : Nat) : α := l.getD j default
end Go.Md

namespace Go.Md
open Go

end Go.Md

namespace Go.Md

end Go.Md

namespace Go.Md

end Go.Md

namespace Go.Md

end Go.Md

namespace Go.Md

def gSortI (l : List Int) : Option (List Int) := if l.length < 4611686018427387904 then some (l.mergeSort fun x y => decide (x ≤ y)) else none
def gGroC (by_ : Nat) (n : Int) : Option Nat := if 0 ≤ n ∧ n ≤ 281474976710656 ∧ by_ * n.toNat ≤ 281474976710656 then some n.toNat else none
theorem gGroC_some {by_ : Nat} {n : Int} {u : Nat} (h : gGroC by_ n = some u) : u = n.toNat ∧ 0 ≤ n ∧ n ≤ 281474976710656 ∧ by_ * n.toNat ≤ 281474976710656 := by
  unfold gGroC at h; split at h
  · cases h; exact ⟨rfl, by assumption⟩
  · cases h
theorem gGroC_ok {by_ : Nat} {n : Int} (h : 0 ≤ n ∧ n ≤ 281474976710656 ∧ by_ * n.toNat ≤ 281474976710656) : gGroC by_ n = some n.toNat := if_pos h
def gApC {α : Type} (c : Nat) (xs ys : List α) : Option (List α) := if xs.length + ys.length ≤ c ∧ c ≤ 9223372036854775807 then some (xs ++ ys) else none
theorem gApC_some {α : Type} {c : Nat} {xs ys zs : List α} (h : gApC c xs ys = some zs) : zs = xs ++ ys ∧ xs.length + ys.length ≤ c ∧ c ≤ 9223372036854775807 := by
  unfold gApC at h; split at h
  · cases h; exact ⟨rfl, by assumption⟩
  · cases h
theorem gApC_ok {α : Type} {c : Nat} {xs ys : List α} (h : xs.length + ys.length ≤ c ∧ c ≤ 9223372036854775807) : gApC c xs ys = some (xs ++ ys) := if_pos h
end Go.Md

namespace Go.Md

end Go.Md

namespace Go.Md

section
variable {κ ν : Type} [DecidableEq κ]
def mGet (xs : List (κ × ν)) (k : κ) : Option ν := (xs.find? fun p => decide (p.1 = k)).map (·.2)
def mHas (xs : List (κ × ν)) (k : κ) : Bool := xs.any fun p => decide (p.1 = k)
def mSet (xs : List (κ × ν)) (k : κ) (v : ν) : List (κ × ν) := if mHas xs k then xs.map (fun p => if p.1 = k then (k, v) else p) else xs ++ [(k, v)]
def mDel (xs : List (κ × ν)) (k : κ) : List (κ × ν) := xs.filter fun p => decide (p.1 ≠ k)
end

structure Pick {α : Type} (l : List α) (p : α) (l' : List α) : Prop where
  out : ∃ i, l[i]? = some p ∧ l' = l.eraseIdx i

theorem Pick.mem {α : Type} {l l' : List α} {p : α} (h : Pick l p l') : p ∈ l := by
  obtain ⟨i, h1, _⟩ := h.out
  exact List.mem_of_getElem? h1
theorem Pick.len {α : Type} {l l' : List α} {p : α} (h : Pick l p l') : l'.length + 1 = l.length := by
  obtain ⟨i, h1, rfl⟩ := h.out
  have hi : i < l.length := by
    rcases Nat.lt_or_ge i l.length with h | h
    · exact h
    · rw [List.getElem?_eq_none h] at h1; cases h1
  rw [List.length_eraseIdx_of_lt hi]; omega
theorem Pick.sub {α : Type} {l l' : List α} {p : α} (h : Pick l p l') : ∀ x ∈ l', x ∈ l := by
  obtain ⟨i, _, rfl⟩ := h.out
  exact fun x hx => List.mem_of_mem_eraseIdx hx
theorem Pick.perm {α : Type} {l l' : List α} {p : α} (h : Pick l p l') : l.Perm (p :: l') := by
  obtain ⟨i, h1, rfl⟩ := h.out
  clear h
  induction l generalizing i with
  | nil => simp at h1
  | cons x l ih =>
    cases i with
    | zero => simp at h1; subst h1; exact List.Perm.refl _
    | succ i =>
      simp at h1
      rw [List.eraseIdx_cons_succ]
      exact (List.Perm.cons x (ih i h1)).trans (List.Perm.swap p x _)

end Go.Md

namespace Go.Md

structure CmpOk {α : Type} (cmp : α → α → Option Int) : Prop where
  tot : ∀ x y, ∃ v, cmp x y = some v
  flip : ∀ x y, (cmp x y).getD 0 < 0 ↔ 0 < (cmp y x).getD 0
  trans : ∀ x y z, (cmp x y).getD 0 ≤ 0 → (cmp y z).getD 0 ≤ 0 → (cmp x z).getD 0 ≤ 0
  anti : ∀ x y, (cmp x y).getD 0 = 0 → x = y

def leC {α : Type} (cmp : α → α → Option Int) (x y : α) : Bool := decide ((cmp x y).getD 0 ≤ 0)

section
variable {α : Type} {cmp : α → α → Option Int}
theorem CmpOk.refl (c : CmpOk cmp) (x : α) : leC cmp x x = true := by
  have := c.flip x x
  unfold leC; simp; omega
end
end Go.Md

namespace Go.Md
end Go.Md

namespace Go.Md
structure CmpPre {α : Type} (cmp : α → α → Option Int) : Prop where
  tot : ∀ x y, ∃ v, cmp x y = some v
  flip : ∀ x y, (cmp x y).getD 0 < 0 ↔ 0 < (cmp y x).getD 0
  trans : ∀ x y z, (cmp x y).getD 0 ≤ 0 → (cmp y z).getD 0 ≤ 0 → (cmp x z).getD 0 ≤ 0
section
variable {α : Type} {cmp : α → α → Option Int}
end
end Go.Md

namespace Go.Md
structure SortOf {α : Type} (cmp : α → α → Option Int) (l d : List α) : Prop where
  perm : d.Perm l
  sorted : d.Pairwise fun x y => leC cmp x y = true

section
variable {α ρ : Type} {cmp : α → α → Option Int} {l : List α} {k : List α → Option ρ} {r : ρ}
end
end Go.Md

namespace Go.M
open Go.Md
set_option maxRecDepth 100000
set_option linter.unusedVariables false

structure T_face_Likeness where
  Id : Int
  Photo : Int
  Vec : (Nat → Int)
instance : Inhabited T_face_Likeness := ⟨⟨0, 0, fun _ => 0⟩⟩

structure T_face_Bond where
  A : Int
  B : Int
  Must : Bool
instance : Inhabited T_face_Bond := ⟨⟨0, 0, false⟩⟩

structure T_face_bonds where
  musts_ : (List (Nat → Int))
  nots_ : (List (Nat → Int))
instance : Inhabited T_face_bonds := ⟨⟨[], []⟩⟩

structure T_face_table where
  gap_ : (List (List Int))
  apart_ : (List (List Bool))
instance : Inhabited T_face_table := ⟨⟨[], []⟩⟩

noncomputable def face_far_l1 (a0 : (Nat → Int)) (a1 : (Nat → Int)) (next1 : ((Int × Int) → Option (Int))) (x5_2 : Int) (x9_2 : Int) : Option (Int) :=
  cnd (decide (x9_2 < 12)) (bnd (gIx 12 x9_2) fun k12 =>
  bnd (gIx 12 x9_2) fun k16 =>
  bnd (gI ((a0 k12) - (a1 k16))) fun t18 =>
  bnd (gIx 12 x9_2) fun k21 =>
  bnd (gI ((a0 k12) - (a1 k21))) fun t23 =>
  bnd (gI (t18 * t23)) fun t24 =>
  bnd (gI (x5_2 + t24)) fun t25 =>
  bnd (gI (x9_2 + 1)) fun t26 =>
  next1 (t25, t26)) (some x5_2)
noncomputable def face_far (a0 : (Nat → Int)) (a1 : (Nat → Int)) : Option (Int) :=
  fix (fun next1 s => face_far_l1 a0 a1 next1 s.1 s.2) (0, 0)

noncomputable def slices_Index_int_l1 (a0 : (List Int)) (a1 : Int) (next1 : ((Int) → Option (Int))) (x8_2 : Int) : Option (Int) :=
  cnd (decide (x8_2 < (a0.length : Int))) (bnd (gAt a0 x8_2) fun t14 =>
  cnd (decide (a1 = t14)) (some x8_2) (bnd (gI (x8_2 + 1)) fun t18 =>
  next1 t18)) (some (-1))
noncomputable def slices_Index_int (a0 : (List Int)) (a1 : Int) : Option (Int) :=
  fix (fun next1 s => slices_Index_int_l1 a0 a1 next1 s) 0

noncomputable def slices_Contains_int (a0 : (List Int)) (a1 : Int) : Option (Bool) :=
  bnd (slices_Index_int a0 a1) fun t7 =>
  some (decide (0 ≤ t7))

noncomputable def slices_BinarySearchFunc_face_Likeness_int_j1 (a0 : (List T_face_Likeness)) (a1 : Int) (a2 : (T_face_Likeness → Int → Option (Int))) (x9 : Int) : Option (Int × Bool) :=
  cnd (decide (x9 < (a0.length : Int))) (bnd (gAt a0 x9) fun t43 =>
  bnd (a2 t43 a1) fun t46 =>
  some (x9, (decide (t46 = 0)))) (some (x9, false))
noncomputable def slices_BinarySearchFunc_face_Likeness_int_l2 (a0 : (List T_face_Likeness)) (a1 : Int) (a2 : (T_face_Likeness → Int → Option (Int))) (next2 : ((Int × Int) → Option (Int × Bool))) (x9_3 : Int) (x10_2 : Int) : Option (Int × Bool) :=
  cnd (decide (x9_3 < x10_2)) (bnd (gI (x9_3 + x10_2)) fun t20 =>
  bnd (gShr 64 (wU64 t20) 1) fun t22 =>
  bnd (gAt a0 (wI64 t22)) fun t27 =>
  bnd (a2 t27 a1) fun t30 =>
  cnd (decide (t30 < 0)) (bnd (gI ((wI64 t22) + 1)) fun t33 =>
  next2 (t33, x10_2)) (next2 (x9_3, (wI64 t22)))) (slices_BinarySearchFunc_face_Likeness_int_j1 a0 a1 a2 x9_3)
noncomputable def slices_BinarySearchFunc_face_Likeness_int (a0 : (List T_face_Likeness)) (a1 : Int) (a2 : (T_face_Likeness → Int → Option (Int))) : Option (Int × Bool) :=
  fix (fun next2 s => slices_BinarySearchFunc_face_Likeness_int_l2 a0 a1 a2 next2 s.1 s.2) (0, (a0.length : Int))

noncomputable def face_at_1 (a0 : T_face_Likeness) (a1 : Int) : Option (Int) :=
  cnd (decide (a0.Id < a1)) (some (-1)) (cnd (decide (a1 < a0.Id)) (some 1) (some 0))

noncomputable def face_at (a0 : (List T_face_Likeness)) (a1 : Int) : Option (Int × Bool) :=
  bnd (slices_BinarySearchFunc_face_Likeness_int a0 a1 face_at_1) fun t8 =>
  some (t8.1, t8.2)

noncomputable def face_outside (a0 : Int) (a1 : Int) (a2 : Int) : Option (Bool) :=
  cnd (decide (a0 < a1)) (some true) (some (decide (a2 < a0)))

noncomputable def face_CheckVec_l1 (a0 : (Nat → Int)) (next1 : ((Int) → Option (Int))) (x6_2 : Int) : Option (Int) :=
  cnd (decide (x6_2 < 12)) (bnd (gIx 12 x6_2) fun k8 =>
  bnd (face_outside (a0 k8) (-127) 127) fun t10 =>
  cnd t10 (some 2) (bnd (gI (x6_2 + 1)) fun t11 =>
  next1 t11)) (some 0)
noncomputable def face_CheckVec (a0 : (Nat → Int)) : Option (Int) :=
  fix (fun next1 s => face_CheckVec_l1 a0 next1 s) 0

noncomputable def face_Check_j2 (x11_2 : Int) (next1 : ((Int) → Option (Int))) (t14 : T_face_Likeness) : Option (Int) :=
  bnd (face_CheckVec t14.Vec) fun t39 =>
  cnd (decide (t39 ≠ 0)) (some t39) (bnd (gI (x11_2 + 1)) fun t43 =>
  next1 t43)
noncomputable def face_Check_l1 (a0 : (List T_face_Likeness)) (next1 : ((Int) → Option (Int))) (x11_2 : Int) : Option (Int) :=
  cnd (decide (x11_2 < (a0.length : Int))) (bnd (gAt a0 x11_2) fun t14 =>
  bnd (face_outside t14.Id 1 1000000) fun t18 =>
  cnd t18 (some 2) (bnd (face_outside t14.Photo 1 1000000) fun t22 =>
  cnd t22 (some 2) (cnd (decide (0 < x11_2)) (bnd (gI (x11_2 - 1)) fun t31 =>
  bnd (gAt a0 t31) fun t32 =>
  cnd (decide (t14.Id ≤ t32.Id)) (some 5) (face_Check_j2 x11_2 next1 t14)) (face_Check_j2 x11_2 next1 t14)))) (some 0)
noncomputable def face_Check (a0 : (List T_face_Likeness)) : Option (Int) :=
  cnd (decide (300 < (a0.length : Int))) (some 4) (fix (fun next1 s => face_Check_l1 a0 next1 s) 0)

noncomputable def face_bondsOf_j1 (l : (List (Nat → Int))) (l_2 : (List (Nat → Int))) : Option (T_face_bonds) :=
  some (⟨l, l_2⟩ : T_face_bonds)
noncomputable def face_bondsOf_j3 (x14_2 : Int) (next2 : ((Int × (List (Nat → Int)) × (List (Nat → Int))) → Option (T_face_bonds))) (l_7 : (List (Nat → Int))) (l_8 : (List (Nat → Int))) : Option (T_face_bonds) :=
  bnd (gI (x14_2 + 1)) fun t50 =>
  next2 (t50, l_7, l_8)
noncomputable def face_bondsOf_l2 (a0 : (List T_face_Likeness)) (a1 : (List T_face_Bond)) (next2 : ((Int × (List (Nat → Int)) × (List (Nat → Int))) → Option (T_face_bonds))) (x14_2 : Int) (l_5 : (List (Nat → Int))) (l_6 : (List (Nat → Int))) : Option (T_face_bonds) :=
  cnd (decide (x14_2 < (a1.length : Int))) (bnd (gAt a1 x14_2) fun t16 =>
  bnd (face_at a0 t16.A) fun t22 =>
  bnd (face_at a0 t16.B) fun t29 =>
  cnd t16.Must (bnd (gApp 16 l_5 ([(ofL [t22.1, t29.1])] : List (Nat → Int))) fun l40 =>
  face_bondsOf_j3 x14_2 next2 l40 l_6) (bnd (gApp 16 l_6 ([(ofL [t22.1, t29.1])] : List (Nat → Int))) fun l48 =>
  face_bondsOf_j3 x14_2 next2 l_5 l48)) (face_bondsOf_j1 l_5 l_6)
noncomputable def face_bondsOf (a0 : (List T_face_Likeness)) (a1 : (List T_face_Bond)) : Option (T_face_bonds) :=
  fix (fun next2 s => face_bondsOf_l2 a0 a1 next2 s.1 s.2.1 s.2.2) (0, ([] : List (Nat → Int)), ([] : List (Nat → Int)))

noncomputable def face_table_nearest_j1 (a2 : Int) (x6 : Int) (x7 : Int) (x9 : Int) : Option (Int × Int × Bool) :=
  some (x6, x7, (decide (x9 ≤ a2)))
noncomputable def face_table_nearest_j3 (x18_2 : Int) (next2 : ((Int × Int × Int × Int) → Option (Int × Int × Bool))) (x6_4 : Int) (x7_4 : Int) (x9_4 : Int) : Option (Int × Int × Bool) :=
  bnd (gI (x18_2 + 1)) fun t64 =>
  next2 (x6_4, x7_4, x9_4, t64)
noncomputable def face_table_nearest_j5 (x28_2 : Int) (next4 : ((Int × Int × Int × Int) → Option (Int × Int × Bool))) (x6_7 : Int) (x7_7 : Int) (x9_7 : Int) : Option (Int × Int × Bool) :=
  bnd (gI (x28_2 + 1)) fun t63 =>
  next4 (x6_7, x7_7, x9_7, t63)
noncomputable def face_table_nearest_l4 (a0 : T_face_table) (x18_2 : Int) (next2 : ((Int × Int × Int × Int) → Option (Int × Int × Bool))) (t21 : Int) (t26 : (List Int)) (next4 : ((Int × Int × Int × Int) → Option (Int × Int × Bool))) (x6_6 : Int) (x7_6 : Int) (x9_6 : Int) (x28_2 : Int) : Option (Int × Int × Bool) :=
  cnd (decide (x28_2 < (t26.length : Int))) (bnd (gAt t26 x28_2) fun t30 =>
  bnd (gAt a0.apart_ t21) fun t35 =>
  bnd (gAt t35 t30) fun t38 =>
  cnd (!t38) (bnd (gAt a0.gap_ t21) fun t45 =>
  bnd (gAt t45 t30) fun t48 =>
  cnd (decide (t48 < x9_6)) (bnd (gAt a0.gap_ t21) fun t58 =>
  bnd (gAt t58 t30) fun t61 =>
  face_table_nearest_j5 x28_2 next4 t21 t30 t61) (face_table_nearest_j5 x28_2 next4 x6_6 x7_6 x9_6)) (face_table_nearest_j5 x28_2 next4 x6_6 x7_6 x9_6)) (face_table_nearest_j3 x18_2 next2 x6_6 x7_6 x9_6)
noncomputable def face_table_nearest_l2 (a0 : T_face_table) (a1 : (List Int)) (a2 : Int) (next2 : ((Int × Int × Int × Int) → Option (Int × Int × Bool))) (x6_3 : Int) (x7_3 : Int) (x9_3 : Int) (x18_2 : Int) : Option (Int × Int × Bool) :=
  cnd (decide (x18_2 < (a1.length : Int))) (bnd (gAt a1 x18_2) fun t21 =>
  bnd (gI (x18_2 + 1)) fun t25 =>
  bnd (gCut a1 t25 a1.length) fun t26 =>
  fix (fun next4 s => face_table_nearest_l4 a0 x18_2 next2 t21 t26 next4 s.1 s.2.1 s.2.2.1 s.2.2.2) (x6_3, x7_3, x9_3, 0)) (face_table_nearest_j1 a2 x6_3 x7_3 x9_3)
noncomputable def face_table_nearest (a0 : T_face_table) (a1 : (List Int)) (a2 : Int) : Option (Int × Int × Bool) :=
  bnd (gI (a2 + 1)) fun t15 =>
  fix (fun next2 s => face_table_nearest_l2 a0 a1 a2 next2 s.1 s.2.1 s.2.2.1 s.2.2.2) (0, 0, t15, 0)

noncomputable def face_checkVecs_l1 (a0 : (List (Nat → Int))) (next1 : ((Int) → Option (Int))) (x8_2 : Int) : Option (Int) :=
  cnd (decide (x8_2 < (a0.length : Int))) (bnd (gAt a0 x8_2) fun t10 =>
  bnd (face_CheckVec t10) fun t13 =>
  cnd (decide (t13 ≠ 0)) (some t13) (bnd (gI (x8_2 + 1)) fun t17 =>
  next1 t17)) (some 0)
noncomputable def face_checkVecs (a0 : (List (Nat → Int))) : Option (Int) :=
  fix (fun next1 s => face_checkVecs_l1 a0 next1 s) 0

noncomputable def face_Far (a0 : (Nat → Int)) (a1 : (Nat → Int)) : Option (Int × Int) :=
  bnd (face_checkVecs ([a0, a1] : List (Nat → Int))) fun t10 =>
  cnd (decide (t10 ≠ 0)) (some (0, t10)) (bnd (face_far a0 a1) fun t16 =>
  some (t16, 0))

noncomputable def Keep_awakeFace  : Option (Bool) :=
  bnd (face_Far (fun _ => 0) (ofL [3, 0, 0, 0, 0, 0, 0, 0, 0, 0, 0, 0])) fun t6 =>
  cnd (decide (t6.2 = 0)) (some (decide (t6.1 = 9))) (some false)

def face_groups_of (g : List (Int × List Int)) (n : Int) : Option Int := match g.find? (fun p => p.2.contains n) with
  | none => some (-1)
  | some p => if g.all (fun q => !q.2.contains n || decide (q.1 = p.1)) then some p.1 else none
def face_each (n : Nat) : List (Int × List Int) := (List.range n).map fun i : Nat => (Int.ofNat i, [Int.ofNat i])
def face_groups_join (g : List (Int × List Int)) (a b : Int) : Option (List (Int × List Int)) := if a = b then some g else
  match mGet g (min a b), mGet g (max a b) with
  | some x, some y => bnd (gApp 8 x y) fun z => bnd (gSortI z) fun l => some (mDel (mSet g (min a b) l) (max a b))
  | _, _ => none
def face_joined : List (Nat → Int) → List (Int × List Int) → Option (List (Int × List Int))
  | [], g => some g
  | m :: ms, g => bnd (face_groups_of g (m 0)) fun x => bnd (face_groups_of g (m 1)) fun y => bnd (face_groups_join g x y) fun g' => face_joined ms g'
def face_bonds_joined (b : T_face_bonds) (n : Int) : Option (List (Int × List Int)) := if 0 ≤ n ∧ n ≤ 9223372036854775807 then face_joined b.musts_ (face_each n.toNat) else none

noncomputable def face_CheckBonds_l2 (t97 : (T_face_bonds)) (t101 : ((List (Int × (List Int))))) (next2 : ((Int) → Option (Int))) (x105_2 : Int) : Option (Int) :=
  cnd (decide (x105_2 < (t97.nots_.length : Int))) (bnd (gAt t97.nots_ x105_2) fun t107 =>
  bnd (face_groups_of t101 (t107 0)) fun t112 =>
  bnd (face_groups_of t101 (t107 1)) fun t116 =>
  cnd (decide (t112 = t116)) (some 11) (bnd (gI (x105_2 + 1)) fun t118 =>
  next2 t118)) (some 0)
noncomputable def face_CheckBonds_j1 (a0 : (List T_face_Likeness)) (a1 : (List T_face_Bond)) : Option (Int) :=
  bnd (face_bondsOf a0 a1) fun t97 =>
  bnd (face_bonds_joined t97 (a0.length : Int)) fun t101 =>
  fix (fun next2 s => face_CheckBonds_l2 t97 t101 next2 s) 0
noncomputable def face_CheckBonds_j4 (x26_2 : Int) (next3 : ((Int) → Option (Int))) (x49 : Bool) (x50 : Bool) : Option (Int) :=
  bnd (gI (x26_2 + 1)) fun t94 =>
  next3 t94
noncomputable def face_CheckBonds_l3 (a0 : (List T_face_Likeness)) (a1 : (List T_face_Bond)) (next3 : ((Int) → Option (Int))) (x26_2 : Int) : Option (Int) :=
  cnd (decide (x26_2 < (a1.length : Int))) (bnd (gAt a1 x26_2) fun t29 =>
  bnd (face_at a0 t29.A) fun t35 =>
  bnd (face_at a0 t29.B) fun t42 =>
  cnd (!t35.2) (some 7) (cnd (!t42.2) (some 7) (cnd (decide (t29.B ≤ t29.A)) (some 1) (cnd (decide (0 < x26_2)) (bnd (gI (x26_2 - 1)) fun t66 =>
  bnd (gAt a1 t66) fun t67 =>
  cnd (decide (t29.A < t67.A)) (some 5) (bnd (gI (x26_2 - 1)) fun t76 =>
  bnd (gAt a1 t76) fun t77 =>
  cnd (decide (t29.A = t77.A)) (bnd (gI (x26_2 - 1)) fun t86 =>
  bnd (gAt a1 t86) fun t87 =>
  cnd (decide (t29.B ≤ t87.B)) (some 5) (face_CheckBonds_j4 x26_2 next3 t42.2 (!t42.2))) (face_CheckBonds_j4 x26_2 next3 t42.2 (!t42.2)))) (face_CheckBonds_j4 x26_2 next3 t42.2 (!t42.2)))))) (face_CheckBonds_j1 a0 a1)
noncomputable def face_CheckBonds (a0 : (List T_face_Likeness)) (a1 : (List T_face_Bond)) : Option (Int) :=
  bnd (face_Check a0) fun t17 =>
  cnd (decide (t17 ≠ 0)) (some t17) (cnd (decide (1000 < (a1.length : Int))) (some 4) (fix (fun next3 s => face_CheckBonds_l3 a0 a1 next3 s) 0))

def set2 {α : Type} (t : List (List α)) (a b : Nat) (v : α) : List (List α) := t.modify a fun r => r.set b v
def get2 {α : Type} (z : α) (t : List (List α)) (a b : Nat) : α := (t.getD a []).getD b z
def sqT {α : Type} (n : Nat) (t : List (List α)) : Prop := t.length = n ∧ ∀ r ∈ t, r.length = n
open Classical in
def mergeT (a b : Nat) (t : T_face_table) (k : Nat) : T_face_table :=
  let n := min (get2 0 t.gap_ a k) (get2 0 t.gap_ b k)
  let p := get2 false t.apart_ a k || get2 false t.apart_ b k
  ⟨set2 (set2 t.gap_ a k n) k a n, set2 (set2 t.apart_ a k p) k a p⟩
open Classical in
noncomputable def face_table_merge (t : T_face_table) (a b : Int) : Option T_face_table :=
  if sqT t.gap_.length t.gap_ ∧ sqT t.gap_.length t.apart_ ∧ 0 ≤ a ∧ a < t.gap_.length ∧ 0 ≤ b ∧ b < t.gap_.length then some ((List.range t.gap_.length).foldl (mergeT a.toNat b.toNat) t) else none
def ofsG (g : List (Int × List Int)) (n : Nat) : List Int := (List.range n).map fun i : Nat => (face_groups_of g (Int.ofNat i)).getD (-1)
noncomputable def gapT (l : List T_face_Likeness) (ofs : List Int) (i : Nat) (t : List (List Int)) (k : Nat) : Option (List (List Int)) :=
  match l[i]?, l[k]? with
  | some x, some y => bnd (face_far x.Vec y.Vec) fun d => some (set2 t (ofs.getD i 0).toNat (ofs.getD k 0).toNat (min (get2 0 t (ofs.getD i 0).toNat (ofs.getD k 0).toNat) d))
  | _, _ => none
def apartT (ofs : List Int) (t : List (List Bool)) (m : Nat → Int) : List (List Bool) :=
  set2 (set2 t (ofs.getD (m 0).toNat 0).toNat (ofs.getD (m 1).toNat 0).toNat true) (ofs.getD (m 1).toNat 0).toNat (ofs.getD (m 0).toNat 0).toNat true
open Classical in
noncomputable def face_newTable (l : List T_face_Likeness) (g : List (Int × List Int)) (nots : List (Nat → Int)) : Option T_face_table :=
  if (∀ p ∈ g, (0 ≤ p.1 ∧ p.1 < l.length) ∧ ∀ n ∈ p.2, 0 ≤ n ∧ n < l.length) ∧ (∀ i : Nat, i < l.length → ∃ x, face_groups_of g (Int.ofNat i) = some x ∧ 0 ≤ x) ∧ (∀ m ∈ nots, (0 ≤ m 0 ∧ m 0 < l.length) ∧ 0 ≤ m 1 ∧ m 1 < l.length) ∧ l.length ≤ 1000000 then
    bnd ((List.range l.length).foldlM (fun t i => (List.range l.length).foldlM (gapT l (ofsG g l.length) i) t) (List.replicate l.length (List.replicate l.length 774193))) fun gap =>
    some ⟨gap, nots.foldl (apartT (ofsG g l.length)) (List.replicate l.length (List.replicate l.length false))⟩
  else none
def keysS (g : List (Int × List Int)) : List Int := (g.map (·.1)).mergeSort fun x y => decide (x ≤ y)
open Classical in
noncomputable def keysB (g : List (Int × List Int)) : Option (List Int) := if (∀ p ∈ g, 0 ≤ p.1 ∧ p.1 ≤ 1000000) ∧ g.length ≤ 1000000 then some (keysS g) else none
noncomputable def face_cluL (limit : Int) (next : List (Int × List Int) × T_face_table → Option (List (Int × List Int))) (s : List (Int × List Int) × T_face_table) : Option (List (Int × List Int)) :=
  bnd (keysB s.1) fun ks => bnd (face_table_nearest s.2 ks limit) fun q => cnd (!q.2.2) (some s.1) (bnd (face_groups_join s.1 q.1 q.2.1) fun g => bnd (face_table_merge s.2 q.1 q.2.1) fun t => next (g, t))
def face_idsL (l : List T_face_Likeness) : List Int → List Int → Option (List Int)
  | [], ids => some ids
  | n :: ns, ids => bnd (gAt l n) fun x => bnd (gApp 8 ids [x.Id]) fun ids' => face_idsL l ns ids'
def face_outL (l : List T_face_Likeness) (g : List (Int × List Int)) : List Int → List (List Int) → Option (List (List Int))
  | [], out => some out
  | k :: ks, out => bnd (mGet g k) fun ns => bnd (face_idsL l ns []) fun ids => bnd (gApp 24 out [ids]) fun out' => face_outL l g ks out'
noncomputable def face_clustered (l : List T_face_Likeness) (b : T_face_bonds) (limit : Int) : Option (List (List Int)) :=
  bnd (face_bonds_joined b l.length) fun g => bnd (face_newTable l g b.nots_) fun t => bnd (fix (face_cluL limit) (g, t)) fun g' => bnd (keysB g') fun ks => face_outL l g' ks []

noncomputable def face_Cluster (a0 : (List T_face_Likeness)) (a1 : (List T_face_Bond)) (a2 : Int) : Option ((List (List Int)) × Int) :=
  bnd (face_CheckBonds a0 a1) fun t11 =>
  cnd (decide (t11 ≠ 0)) (some (([] : List (List Int)), t11)) (bnd (face_outside a2 0 774192) fun t16 =>
  cnd t16 (some (([] : List (List Int)), 2)) (bnd (face_bondsOf a0 a1) fun t20 =>
  bnd (face_clustered a0 t20 a2) fun t22 =>
  some (t22, 0)))

noncomputable def cmp_isNaN_int (a0 : Int) : Option (Bool) :=
  some (decide (a0 ≠ a0))

noncomputable def cmp_Less_int (a0 : Int) (a1 : Int) : Option (Bool) :=
  bnd (cmp_isNaN_int a0) fun t6 =>
  cnd t6 (bnd (cmp_isNaN_int a1) fun t9 =>
  cnd (!t9) (some true) (some (decide (a0 < a1)))) (some (decide (a0 < a1)))

noncomputable def slices_IsSorted_int_l1 (a0 : (List Int)) (next1 : ((Int) → Option (Bool))) (x3_2 : Int) : Option (Bool) :=
  cnd (decide (0 < x3_2)) (bnd (gAt a0 x3_2) fun t13 =>
  bnd (gI (x3_2 - 1)) fun t17 =>
  bnd (gAt a0 t17) fun t18 =>
  bnd (cmp_Less_int t13 t18) fun t20 =>
  cnd t20 (some false) (bnd (gI (x3_2 - 1)) fun t10 =>
  next1 t10)) (some true)
noncomputable def slices_IsSorted_int (a0 : (List Int)) : Option (Bool) :=
  bnd (gI ((a0.length : Int) - 1)) fun t6 =>
  fix (fun next1 s => slices_IsSorted_int_l1 a0 next1 s) t6

noncomputable def slices_Concat_int_l2 (a0 : (List (List Int))) (u24 : Nat) (next2 : ((Int × (List Int)) → Option ((List Int)))) (x27_2 : Int) (l_2 : (List Int)) : Option ((List Int)) :=
  cnd (decide (x27_2 < (a0.length : Int))) (bnd (gAt a0 x27_2) fun t29 =>
  bnd (gApC u24 l_2 t29) fun l33 =>
  bnd (gI (x27_2 + 1)) fun t34 =>
  next2 (t34, l33)) (some l_2)
noncomputable def slices_Concat_int_j1 (a0 : (List (List Int))) (x3 : Int) : Option ((List Int)) :=
  bnd (gGroC 8 x3) fun u24 =>
  fix (fun next2 s => slices_Concat_int_l2 a0 u24 next2 s.1 s.2) (0, ([] : List Int))
noncomputable def slices_Concat_int_l3 (a0 : (List (List Int))) (next3 : ((Int × Int) → Option ((List Int)))) (x3_3 : Int) (x11_2 : Int) : Option ((List Int)) :=
  cnd (decide (x11_2 < (a0.length : Int))) (bnd (gAt a0 x11_2) fun t13 =>
  bnd (gI (x3_3 + (t13.length : Int))) fun t18 =>
  cnd (decide (t18 < 0)) (none) (bnd (gI (x11_2 + 1)) fun t22 =>
  next3 (t18, t22))) (slices_Concat_int_j1 a0 x3_3)
noncomputable def slices_Concat_int (a0 : (List (List Int))) : Option ((List Int)) :=
  fix (fun next3 s => slices_Concat_int_l3 a0 next3 s.1 s.2) (0, 0)

noncomputable def face_Gap_j3 (x55_2 : Int) (next2 : ((Int × Int) → Option (Int × Int))) (x13_3 : Int) : Option (Int × Int) :=
  bnd (gI (x55_2 + 1)) fun t91 =>
  next2 (x13_3, t91)
noncomputable def face_Gap_l4 (a0 : (List T_face_Likeness)) (a2 : (List Int)) (x55_2 : Int) (next2 : ((Int × Int) → Option (Int × Int))) (t57 : Int) (next4 : ((Int × Int) → Option (Int × Int))) (x13_5 : Int) (x61_2 : Int) : Option (Int × Int) :=
  cnd (decide (x61_2 < (a2.length : Int))) (bnd (gAt a2 x61_2) fun t63 =>
  bnd (face_at a0 t57) fun t68 =>
  bnd (face_at a0 t63) fun t74 =>
  bnd (gAt a0 t68.1) fun t80 =>
  bnd (gAt a0 t74.1) fun t85 =>
  bnd (face_far t80.Vec t85.Vec) fun t88 =>
  bnd (gI (x61_2 + 1)) fun t90 =>
  next4 ((min x13_5 t88), t90)) (face_Gap_j3 x55_2 next2 x13_5)
noncomputable def face_Gap_l2 (a0 : (List T_face_Likeness)) (a1 : (List Int)) (a2 : (List Int)) (next2 : ((Int × Int) → Option (Int × Int))) (x13_2 : Int) (x55_2 : Int) : Option (Int × Int) :=
  cnd (decide (x55_2 < (a1.length : Int))) (bnd (gAt a1 x55_2) fun t57 =>
  fix (fun next4 s => face_Gap_l4 a0 a2 x55_2 next2 t57 next4 s.1 s.2) (x13_2, 0)) (some (x13_2, 0))
noncomputable def face_Gap_j1 (a0 : (List T_face_Likeness)) (a1 : (List Int)) (a2 : (List Int)) : Option (Int × Int) :=
  cnd (decide ((a1.length : Int) = 0)) (some (0, 7)) (cnd (decide ((a2.length : Int) = 0)) (some (0, 7)) (fix (fun next2 s => face_Gap_l2 a0 a1 a2 next2 s.1 s.2) (774192, 0)))
noncomputable def face_Gap_l5 (a0 : (List T_face_Likeness)) (a1 : (List Int)) (a2 : (List Int)) (t30 : ((List Int))) (next5 : ((Int) → Option (Int × Int))) (x32_2 : Int) : Option (Int × Int) :=
  cnd (decide (x32_2 < (t30.length : Int))) (bnd (gAt t30 x32_2) fun t34 =>
  bnd (face_at a0 t34) fun t39 =>
  cnd (!t39.2) (some (0, 7)) (bnd (gI (x32_2 + 1)) fun t44 =>
  next5 t44)) (face_Gap_j1 a0 a1 a2)
noncomputable def face_Gap (a0 : (List T_face_Likeness)) (a1 : (List Int)) (a2 : (List Int)) : Option (Int × Int) :=
  bnd (face_Check a0) fun t23 =>
  cnd (decide (t23 ≠ 0)) (some (0, t23)) (bnd (slices_Concat_int ([a1, a2] : List (List Int))) fun t30 =>
  fix (fun next5 s => face_Gap_l5 a0 a1 a2 t30 next5 s) 0)

noncomputable def Keep_FaceClusters_j4 (x127_2 : Int) (next3 : ((Int) → Option (Bool))) : Option (Bool) :=
  bnd (gI (x127_2 + 1)) fun t163 =>
  next3 t163
noncomputable def Keep_FaceClusters_j6 (x131_2 : Int) (next5 : ((Int) → Option (Bool))) (x150 : Int) (x152 : Bool) (x153 : Bool) (x160 : Bool) : Option (Bool) :=
  bnd (gI (x131_2 + 1)) fun t162 =>
  next5 t162
noncomputable def Keep_FaceClusters_l5 (a0 : (List T_face_Likeness)) (a2 : Int) (t31 : ((List (List Int)) × Int)) (mp_2 : (List ((Int × Int) × Bool))) (x127_2 : Int) (next3 : ((Int) → Option (Bool))) (next5 : ((Int) → Option (Bool))) (x131_2 : Int) : Option (Bool) :=
  cnd (decide (x131_2 < x127_2)) (bnd (gAt t31.1 x131_2) fun t138 =>
  bnd (gAt t31.1 x127_2) fun t142 =>
  bnd (face_Gap a0 t138 t142) fun t144 =>
  cnd (decide (t144.2 ≠ 0)) (some false) (cnd (decide (t144.1 ≤ a2)) (cnd (!((mGet mp_2 (x131_2, x127_2)).getD false)) (some false) (Keep_FaceClusters_j6 x131_2 next5 t144.1 (decide (t144.1 ≤ a2)) true (!((mGet mp_2 (x131_2, x127_2)).getD false)))) (Keep_FaceClusters_j6 x131_2 next5 t144.1 (decide (t144.1 ≤ a2)) false false))) (Keep_FaceClusters_j4 x127_2 next3)
noncomputable def Keep_FaceClusters_l3 (a0 : (List T_face_Likeness)) (a2 : Int) (t31 : ((List (List Int)) × Int)) (mp_2 : (List ((Int × Int) × Bool))) (next3 : ((Int) → Option (Bool))) (x127_2 : Int) : Option (Bool) :=
  cnd (decide (x127_2 < (t31.1.length : Int))) (fix (fun next5 s => Keep_FaceClusters_l5 a0 a2 t31 mp_2 x127_2 next3 next5 s) 0) (some true)
noncomputable def Keep_FaceClusters_j2 (a0 : (List T_face_Likeness)) (a2 : Int) (t31 : ((List (List Int)) × Int)) (mp_2 : (List ((Int × Int) × Bool))) : Option (Bool) :=
  fix (fun next3 s => Keep_FaceClusters_l3 a0 a2 t31 mp_2 next3 s) 0
noncomputable def Keep_FaceClusters_j8 (x95_2 : Int) (next7 : ((Int × (List ((Int × Int) × Bool))) → Option (Bool))) (mp_5 : (List ((Int × Int) × Bool))) : Option (Bool) :=
  bnd (gI (x95_2 + 1)) fun t124 =>
  next7 (t124, mp_5)
noncomputable def Keep_FaceClusters_l7 (a0 : (List T_face_Likeness)) (a1 : (List T_face_Bond)) (a2 : Int) (t31 : ((List (List Int)) × Int)) (mp : (List (Int × Int))) (next7 : ((Int × (List ((Int × Int) × Bool))) → Option (Bool))) (x95_2 : Int) (mp_4 : (List ((Int × Int) × Bool))) : Option (Bool) :=
  cnd (decide (x95_2 < (a1.length : Int))) (bnd (gAt a1 x95_2) fun t97 =>
  cnd (decide (t97.Must ≠ (decide (((mGet mp t97.A).getD 0) = ((mGet mp t97.B).getD 0))))) (some false) (cnd (!t97.Must) (Keep_FaceClusters_j8 x95_2 next7 (mSet mp_4 ((min ((mGet mp t97.A).getD 0) ((mGet mp t97.B).getD 0)), (max ((mGet mp t97.A).getD 0) ((mGet mp t97.B).getD 0))) true)) (Keep_FaceClusters_j8 x95_2 next7 mp_4))) (Keep_FaceClusters_j2 a0 a2 t31 mp_4)
noncomputable def Keep_FaceClusters_j1 (a0 : (List T_face_Likeness)) (a1 : (List T_face_Bond)) (a2 : Int) (t31 : ((List (List Int)) × Int)) (mp : (List (Int × Int))) : Option (Bool) :=
  cnd (decide ((mp.length : Int) ≠ (a0.length : Int))) (some false) (fix (fun next7 s => Keep_FaceClusters_l7 a0 a1 a2 t31 mp next7 s.1 s.2) (0, ([] : (List ((Int × Int) × Bool)))))
noncomputable def Keep_FaceClusters_j10 (x39_2 : Int) (next9 : ((Int × (List (Int × Int))) → Option (Bool))) (x48 : (List Int)) (x49 : Bool) (x50 : Bool) (x55 : Bool) (x67 : Bool) (mp_8 : (List (Int × Int))) : Option (Bool) :=
  bnd (gI (x39_2 + 1)) fun t86 =>
  next9 (t86, mp_8)
noncomputable def Keep_FaceClusters_l12 (x39_2 : Int) (next9 : ((Int × (List (Int × Int))) → Option (Bool))) (t42 : (List Int)) (x49_2 : Bool) (x50_2 : Bool) (x55_2 : Bool) (x67_2 : Bool) (next12 : ((Int × (List (Int × Int))) → Option (Bool))) (x71_2 : Int) (mp_10 : (List (Int × Int))) : Option (Bool) :=
  cnd (decide (x71_2 < (t42.length : Int))) (bnd (gAt t42 x71_2) fun t73 =>
  cnd (mHas mp_10 t73) (some false) (bnd (gI (x71_2 + 1)) fun t85 =>
  next12 (t85, (mSet mp_10 t73 x39_2)))) (Keep_FaceClusters_j10 x39_2 next9 t42 x49_2 x50_2 x55_2 x67_2 mp_10)
noncomputable def Keep_FaceClusters_j11 (x39_2 : Int) (mp_7 : (List (Int × Int))) (next9 : ((Int × (List (Int × Int))) → Option (Bool))) (t42 : (List Int)) (x49_2 : Bool) (x50_2 : Bool) (x55_2 : Bool) (x67_2 : Bool) : Option (Bool) :=
  fix (fun next12 s => Keep_FaceClusters_l12 x39_2 next9 t42 x49_2 x50_2 x55_2 x67_2 next12 s.1 s.2) (0, mp_7)
noncomputable def Keep_FaceClusters_l9 (a0 : (List T_face_Likeness)) (a1 : (List T_face_Bond)) (a2 : Int) (t31 : ((List (List Int)) × Int)) (next9 : ((Int × (List (Int × Int))) → Option (Bool))) (x39_2 : Int) (mp_7 : (List (Int × Int))) : Option (Bool) :=
  cnd (decide (x39_2 < (t31.1.length : Int))) (bnd (gAt t31.1 x39_2) fun t42 =>
  cnd (decide ((t42.length : Int) = 0)) (some false) (bnd (slices_IsSorted_int t42) fun t49 =>
  cnd (!t49) (some false) (cnd (decide (0 < x39_2)) (bnd (gI (x39_2 - 1)) fun t58 =>
  bnd (gAt t31.1 t58) fun t59 =>
  bnd (gAt t59 0) fun t61 =>
  bnd (gAt t42 0) fun t64 =>
  cnd (decide (t64 ≤ t61)) (some false) (Keep_FaceClusters_j11 x39_2 mp_7 next9 t42 t49 (!t49) true (decide (t64 ≤ t61)))) (Keep_FaceClusters_j11 x39_2 mp_7 next9 t42 t49 (!t49) false false)))) (Keep_FaceClusters_j1 a0 a1 a2 t31 mp_7)
noncomputable def Keep_FaceClusters (a0 : (List T_face_Likeness)) (a1 : (List T_face_Bond)) (a2 : Int) : Option (Bool) :=
  bnd (Keep_awakeFace) fun t25 =>
  cnd (!t25) (some false) (bnd (face_Cluster a0 a1 a2) fun t31 =>
  cnd (decide (t31.2 ≠ 0)) (some true) (fix (fun next9 s => Keep_FaceClusters_l9 a0 a1 a2 t31 next9 s.1 s.2) (0, ([] : (List (Int × Int))))))

end Go.M

namespace Go.Proofs
open Go.Shelf
def Try.lays189_ren : Go.Shelf.Ren := ⟨fun | 189 => 40 | 125 => 66 | 257 => 67 | 128 => 80 | 129 => 81 | 294 => 82 | 295 => 83 | 296 => 84 | 297 => 85 | 298 => 86 | 299 => 87 | 216 => 24 | 300 => 88 | 301 => 89 | 328 => 97 | 329 => 93 | 330 => 94 | 331 => 98 | 332 => 99 | 215 => 57 | 343 => 101 | n => n, fun | 28 => 30 | 3 => 3 | 46 => 112 | 0 => 0 | 51 => 124 | 53 => 126 | 4 => 4 | 183 => 118 | 182 => 117 | 131 => 32 | 5 => 5 | 9 => 9 | 218 => 134 | 222 => 138 | 228 => 142 | 229 => 143 | n => n, fun | n => n⟩
theorem Try.lays189 : Go.Proofs.Lays.n189 Try.prog Try.lays189_ren := {
  mixed := by kernel_rfl
  f125 := Try.func66.trans (congrArg some (by kernel_rfl))
  f128 := Try.func80.trans (congrArg some (by kernel_rfl))
  f129 := Try.func81.trans (congrArg some (by kernel_rfl))
  f189 := Try.func40.trans (congrArg some (by kernel_rfl))
  f215 := Try.func57.trans (congrArg some (by kernel_rfl))
  f216 := Try.func24.trans (congrArg some (by kernel_rfl))
  f257 := Try.func67.trans (congrArg some (by kernel_rfl))
  f294 := Try.func82.trans (congrArg some (by kernel_rfl))
  f295 := Try.func83.trans (congrArg some (by kernel_rfl))
  f296 := Try.func84.trans (congrArg some (by kernel_rfl))
  f297 := Try.func85.trans (congrArg some (by kernel_rfl))
  f298 := Try.func86.trans (congrArg some (by kernel_rfl))
  f299 := Try.func87.trans (congrArg some (by kernel_rfl))
  f300 := Try.func88.trans (congrArg some (by kernel_rfl))
  f301 := Try.func89.trans (congrArg some (by kernel_rfl))
  f328 := Try.func97.trans (congrArg some (by kernel_rfl))
  f329 := Try.func93.trans (congrArg some (by kernel_rfl))
  f330 := Try.func94.trans (congrArg some (by kernel_rfl))
  f331 := Try.func98.trans (congrArg some (by kernel_rfl))
  f332 := Try.func99.trans (congrArg some (by kernel_rfl))
  f343 := Try.func101.trans (congrArg some (by kernel_rfl))
  t0 := Try.underlying0
  a0 := Try.isAgg0
  z0 := Try.sizeOf0
  v0 := Try.zeroValue0
  t3 := Try.underlying3
  a3 := Try.isAgg3
  z3 := Try.sizeOf3
  v3 := Try.zeroValue3
  t4 := Try.underlying4
  a4 := Try.isAgg4
  z4 := Try.sizeOf4
  v4 := Try.zeroValue4
  t5 := Try.underlying5
  a5 := Try.isAgg5
  z5 := Try.sizeOf5
  v5 := Try.zeroValue5
  t9 := Try.underlying9
  a9 := Try.isAgg9
  z9 := Try.sizeOf9
  v9 := Try.zeroValue9
  t28 := Try.underlying30
  a28 := Try.isAgg30
  z28 := Try.sizeOf30
  v28 := Try.zeroValue30
  t46 := Try.underlying112
  a46 := Try.isAgg112
  z46 := Try.sizeOf112
  v46 := Try.zeroValue112
  t51 := Try.underlying124
  a51 := Try.isAgg124
  z51 := Try.sizeOf124
  v51 := Try.zeroValue124
  t53 := Try.underlying126
  a53 := Try.isAgg126
  z53 := Try.sizeOf126
  v53 := Try.zeroValue126
  t131 := Try.underlying32
  a131 := Try.isAgg32
  z131 := Try.sizeOf32
  v131 := Try.zeroValue32
  t182 := Try.underlying117
  a182 := Try.isAgg117
  z182 := Try.sizeOf117
  v182 := Try.zeroValue117
  t183 := Try.underlying118
  a183 := Try.isAgg118
  z183 := Try.sizeOf118
  v183 := Try.zeroValue118
  t218 := Try.underlying134
  a218 := Try.isAgg134
  z218 := Try.sizeOf134
  v218 := Try.zeroValue134
  t222 := Try.underlying138
  a222 := Try.isAgg138
  z222 := Try.sizeOf138
  v222 := Try.zeroValue138
  t228 := Try.underlying142
  a228 := Try.isAgg142
  z228 := Try.sizeOf142
  v228 := Try.zeroValue142
  t229 := Try.underlying143
  a229 := Try.isAgg143
  z229 := Try.sizeOf143
  v229 := Try.zeroValue143 }
end Go.Proofs

namespace Go.Vc
open Go

abbrev Env := Nat → Value

def upd (e : Env) (d : Nat) (v : Value) : Env := fun t => bif Nat.beq t d then v else e t

def ev (e : Env) : Operand → Value
  | .tmp t => e t
  | .const v => v
  | .global g => .pointer (some ⟨g, 0, none⟩)
  | .func f => .func (.func f) #[] #[]

structure Sim (n : Nat) (a : Act) (e : Env) : Prop where
  defers : a.defers = []
  size : a.tmps.size = n
  val : ∀ t, a.tmps.getD t undef = e t

theorem Sim.ev {n : Nat} {a : Act} {e : Env} (h : Sim n a e) : a.eval = ev e := by
  funext o
  cases o <;> simp [Act.eval, Vc.ev, h.val]

theorem beq_eq (a b : Nat) : Nat.beq a b = decide (a = b) := by
  rw [Bool.eq_iff_iff]; simp [Nat.beq_eq]

theorem upd_same (e : Env) (d : Nat) (v : Value) : upd e d v d = v := by simp [upd]
theorem upd_ne (e : Env) (d t : Nat) (v : Value) (h : t ≠ d) : upd e d v t = e t := by simp [upd, beq_eq, h]

theorem Sim.put {n : Nat} {a : Act} {e : Env} (h : Sim n a e) {d : Nat} (hd : Nat.blt d n = true) (v : Value) : Sim n (a.put (some d) v) (upd e d v) := by
  have hd' : d < n := by simpa using hd
  refine ⟨h.defers, by simp [Act.put, h.size], fun t => ?_⟩
  have ht := h.val t
  by_cases htd : t = d
  · subst htd
    rw [upd_same]
    simp [Act.put, Array.getD_eq_getD_getElem?, h.size, hd']
  · rw [upd_ne _ _ _ _ htd, ← ht]
    simp only [Act.put, Array.getD_eq_getD_getElem?]
    rw [Array.getElem?_setIfInBounds]
    have : ¬ d = t := fun e => htd e.symm
    simp [this]

def lget : List Value → Env
  | [], _ => undef
  | v :: _, 0 => v
  | _ :: l, t + 1 => lget l t

theorem lget_eq (l : List Value) (t : Nat) : lget l t = l.getD t undef := by
  induction l generalizing t with
  | nil => simp [lget]
  | cons v l ih => cases t <;> simp [lget, ih]


def Grow (w w' : World) : Prop := Go.RowKit.Below w.heap.size w w'

theorem Grow.refl (w : World) : Grow w w := Go.RowKit.Below.refl _ _
theorem Grow.trans {a b c : World} (h : Grow a b) (k : Grow b c) : Grow a c := Go.RowKit.Below.trans h (Go.RowKit.Below.mono k h.size)

structure Chunk where
  P : (Nat → Prop) → World → Prop
  loc : ∀ S w w', (∀ b, S b → w'.heap[b]? = w.heap[b]?) → P S w → P S w'

structure Cx where
  w0 : World
  S0 : Nat → Prop

def Cx.own (cx : Cx) (b : Nat) : Prop := cx.w0.heap.size ≤ b ∨ cx.S0 b

structure Fr (cx : Cx) (w : World) : Prop where
  os : w.os = cx.w0.os
  tape : w.tape = cx.w0.tape
  output : w.output = cx.w0.output
  size : cx.w0.heap.size ≤ w.heap.size
  block : ∀ b, ¬ cx.own b → w.heap[b]? = cx.w0.heap[b]?

structure Sat (cx : Cx) (w : World) (L : List Chunk) : Prop where
  out : ∃ fp : Nat → Nat → Prop, (∀ (i : Nat) (c : Chunk), L[i]? = some c → c.P (fp i) w) ∧ (∀ i b, fp i b → i < L.length ∧ b < w.heap.size ∧ cx.own b) ∧ (∀ i j b, fp i b → fp j b → i = j)

theorem Fr.refl (w : World) (S0 : Nat → Prop) : Fr ⟨w, S0⟩ w := ⟨rfl, rfl, rfl, Nat.le_refl _, fun _ _ => rfl⟩

theorem Fr.grow {cx : Cx} {w w' : World} (h : Fr cx w) (g : Grow w w') : Fr cx w' := by
  refine ⟨g.os.trans h.os, g.tape.trans h.tape, g.output.trans h.output, Nat.le_trans h.size g.size, fun b hb => ?_⟩
  have hlt : b < w.heap.size := by
    have : ¬ cx.w0.heap.size ≤ b := fun hh => hb (.inl hh)
    have := h.size
    omega
  rw [g.block b hlt, h.block b hb]

theorem Sat.grow {cx : Cx} {w w' : World} {L : List Chunk} (h : Sat cx w L) (g : Grow w w') : Sat cx w' L := by
  obtain ⟨fp, h1, h2, h3⟩ := h.out
  refine ⟨fp, fun i c hc => c.loc _ _ _ (fun b hb => g.block b (h2 i b hb).2.1) (h1 i c hc), fun i b hb => ?_, h3⟩
  obtain ⟨a1, a2, a3⟩ := h2 i b hb
  exact ⟨a1, Nat.lt_of_lt_of_le a2 g.size, a3⟩

theorem Sat.nil (cx : Cx) (w : World) : Sat cx w [] := ⟨fun _ _ => False, by simp, fun _ _ h => h.elim, fun _ _ _ h => h.elim⟩

theorem Sat.snoc {cx : Cx} {w w' : World} {L : List Chunk} {c : Chunk} {S : Nat → Prop} (h : Sat cx w L) (hf : Fr cx w) (g : Grow w w') (hc : c.P S w')
    (hS : ∀ b, S b → w.heap.size ≤ b ∧ b < w'.heap.size) : Sat cx w' (L ++ [c]) := by
  obtain ⟨fp, k1, h2, h3⟩ := h.out
  have h1 : ∀ (i : Nat) (c : Chunk), L[i]? = some c → c.P (fp i) w' := fun i c hc => c.loc _ _ _ (fun b hb => g.block b (h2 i b hb).2.1) (k1 i c hc)
  refine ⟨fun i b => (i < L.length ∧ fp i b) ∨ (i = L.length ∧ S b), ?_, ?_, ?_⟩
  · intro i d hd
    by_cases hi : i < L.length
    · have : (fun b => (i < L.length ∧ fp i b) ∨ (i = L.length ∧ S b)) = fp i := by
        funext b; apply propext; constructor
        · rintro (⟨_, h⟩ | ⟨h, _⟩)
          · exact h
          · omega
        · exact fun h => .inl ⟨hi, h⟩
      show d.P (fun b => (i < L.length ∧ fp i b) ∨ (i = L.length ∧ S b)) w'
      rw [this]
      exact h1 i d (by simpa [List.getElem?_append_left hi] using hd)
    · have hle : L.length ≤ i := by omega
      rw [List.getElem?_append_right hle] at hd
      have hi0 : i - L.length = 0 := by
        by_cases h0 : i - L.length = 0
        · exact h0
        · obtain ⟨k, hk⟩ : ∃ k, i - L.length = k + 1 := ⟨i - L.length - 1, by omega⟩
          rw [hk] at hd; simp at hd
      have hil : i = L.length := by omega
      rw [hi0] at hd
      simp at hd
      subst hd
      have : (fun b => (i < L.length ∧ fp i b) ∨ (i = L.length ∧ S b)) = S := by
        funext b; apply propext; constructor
        · rintro (⟨h, _⟩ | ⟨_, h⟩)
          · omega
          · exact h
        · exact fun h => .inr ⟨hil, h⟩
      show c.P (fun b => (i < L.length ∧ fp i b) ∨ (i = L.length ∧ S b)) w'
      rw [this]
      exact hc
  · rintro i b (⟨hi, hb⟩ | ⟨hi, hb⟩)
    · obtain ⟨a1, a2, a3⟩ := h2 i b hb
      exact ⟨by simp; omega, Nat.lt_of_lt_of_le a2 g.size, a3⟩
    · obtain ⟨a1, a2⟩ := hS b hb
      exact ⟨by simp; omega, a2, .inl (Nat.le_trans hf.size a1)⟩
  · rintro i j b (⟨hi, hb⟩ | ⟨hi, hb⟩) (⟨hj, hb'⟩ | ⟨hj, hb'⟩)
    · exact h3 i j b hb hb'
    · have := (h2 i b hb).2.1; have := (hS b hb').1; omega
    · have := (h2 j b hb').2.1; have := (hS b hb).1; omega
    · omega

theorem Sat.set {cx : Cx} {w w' : World} {L : List Chunk} {i : Nat} {c c' : Chunk} (h : Sat cx w L) (hf : Fr cx w) (hi : L[i]? = some c)
    (hs : w.heap.size ≤ w'.heap.size)
    (hc : ∀ S : Nat → Prop, c.P S w → (∀ b, S b → b < w.heap.size ∧ cx.own b) → ∃ S' : Nat → Prop, c'.P S' w' ∧ (∀ b, S' b → b < w'.heap.size ∧ (S b ∨ w.heap.size ≤ b)) ∧ ∀ b, b < w.heap.size → ¬ S b → w'.heap[b]? = w.heap[b]?) :
    Sat cx w' (L.set i c') := by
  obtain ⟨fp, h1, h2, h3⟩ := h.out
  obtain ⟨S', k1, k2, k3⟩ := hc (fp i) (h1 i c hi) (fun b hb => (h2 i b hb).2)
  have hil : i < L.length := by
    rcases Nat.lt_or_ge i L.length with h | h
    · exact h
    · simp [List.getElem?_eq_none h] at hi
  refine ⟨fun j b => if j = i then S' b else fp j b, ?_, ?_, ?_⟩
  · intro j d hd
    by_cases hji : j = i
    · subst hji
      simp [List.getElem?_set_self hil] at hd
      subst hd
      simpa using k1
    · rw [List.getElem?_set_ne (fun e => hji e.symm)] at hd
      simp only [hji, if_false]
      exact d.loc _ _ _ (fun b hb => k3 b (h2 j b hb).2.1 (fun hib => hji (h3 j i b hb hib))) (h1 j d hd)
  · intro j b hb
    by_cases hji : j = i
    · simp only [hji, if_true] at hb
      refine ⟨by simp [hji, hil], (k2 b hb).1, ?_⟩
      rcases (k2 b hb).2 with h | h
      · exact (h2 i b h).2.2
      · exact .inl (Nat.le_trans hf.size h)
    · simp only [hji, if_false] at hb
      obtain ⟨a1, a2, a3⟩ := h2 j b hb
      exact ⟨by simpa using a1, by omega, a3⟩
  · intro j k b hj hk
    by_cases hji : j = i <;> by_cases hki : k = i <;> simp only [hji, hki, if_true, if_false] at hj hk
    · omega
    · obtain ⟨_, a2, _⟩ := h2 k b hk
      rcases (k2 b hj).2 with h | h
      · exact absurd (h3 k i b hk h) hki
      · omega
    · obtain ⟨_, a2, _⟩ := h2 j b hj
      rcases (k2 b hk).2 with h | h
      · exact absurd (h3 j i b hj h) hji
      · omega
    · exact h3 j k b hj hk

theorem Sat.select {cx : Cx} {w : World} {L L' : List Chunk} (h : Sat cx w L) (sel : List Nat) (hnd : sel.Nodup) (hs : sel.map (fun i => L[i]?) = L'.map some) : Sat cx w L' := by
  obtain ⟨fp, h1, h2, h3⟩ := h.out
  have hlen : sel.length = L'.length := by simpa using congrArg List.length hs
  refine ⟨fun k b => ∃ i, sel[k]? = some i ∧ fp i b, ?_, ?_, ?_⟩
  · intro k c hc
    have hk : (sel.map (fun i => L[i]?))[k]? = (L'.map some)[k]? := by rw [hs]
    simp only [List.getElem?_map, hc, Option.map_some] at hk
    cases hsk : sel[k]? with
    | none => simp [hsk] at hk
    | some i =>
      simp [hsk] at hk
      have : (fun b => ∃ j, some i = some j ∧ fp j b) = fp i := by
        funext b; apply propext; constructor
        · rintro ⟨j, hj, hb⟩; cases hj; exact hb
        · exact fun hb => ⟨i, rfl, hb⟩
      show c.P (fun b => ∃ j, sel[k]? = some j ∧ fp j b) w
      rw [hsk, this]
      exact h1 i c hk
  · rintro k b ⟨i, hi, hb⟩
    have hkl : k < sel.length := by
      rcases Nat.lt_or_ge k sel.length with h | h
      · exact h
      · simp [List.getElem?_eq_none h] at hi
    exact ⟨by omega, (h2 i b hb).2⟩
  · rintro k k' b ⟨i, hi, hb⟩ ⟨i', hi', hb'⟩
    have := h3 i i' b hb hb'
    subst this
    have hkl : k < sel.length := by
      rcases Nat.lt_or_ge k sel.length with h | h
      · exact h
      · simp [List.getElem?_eq_none h] at hi
    have hkl' : k' < sel.length := by
      rcases Nat.lt_or_ge k' sel.length with h | h
      · exact h
      · simp [List.getElem?_eq_none h] at hi'
    have hp := List.pairwise_iff_getElem.1 hnd
    rw [List.getElem?_eq_getElem hkl] at hi
    rw [List.getElem?_eq_getElem hkl'] at hi'
    rcases Nat.lt_trichotomy k k' with h | h | h
    · exact absurd ((Option.some.inj hi).trans (Option.some.inj hi').symm) (hp k k' hkl hkl' h)
    · exact h
    · exact absurd ((Option.some.inj hi').trans (Option.some.inj hi).symm) (hp k' k hkl' hkl h)


structure At (cx : Cx) (K : Env → World → Prop) (e : Env) (L : List Chunk) : Prop where
  out : ∀ w, Fr cx w → Sat cx w L → K e w

abbrev Post := Exit → Env → World → Prop

def lift (n : Nat) (Q : Post) : Exit → Act → World → Prop := fun x a w => ∃ e, Sim n a e ∧ Q x e w

structure WC (P : Program) (n : Nat) (c : Code) (Q : Post) (e : Env) (w : World) : Prop where
  out : ∀ a, Sim n a e → c.wp P (lift n Q) a w

structure WL (P : Program) (n : Nat) (ops : Array Oper) (Q : Post) (l : List Oper) (e : Env) (w : World) : Prop where
  out : ∀ a, Sim n a e → wpList P ops (lift n Q) l a w

def ThenQ (K : Env → World → Prop) (Q : Post) : Post
  | .normal, e, w => K e w
  | .exit i, e, w => Q (.exit i) e w
  | .goto l, e, w => Q (.goto l) e w
  | .ret, e, w => Q .ret e w
  | .panic c, e, w => Q (.panic c) e w
  | .outgrown, e, w => Q .outgrown e w

def BlockQ (id : Nat) (Q : Post) : Post
  | .normal, e, w => Q .normal e w
  | .exit i, e, w => bif Nat.beq i id then Q .normal e w else Q (.exit i) e w
  | .goto l, e, w => Q (.goto l) e w
  | .ret, e, w => Q .ret e w
  | .panic c, e, w => Q (.panic c) e w
  | .outgrown, e, w => Q .outgrown e w

section rules
variable {P : Program} {n : Nat} {cx : Cx} {Q : Post} {e : Env} {L : List Chunk}

theorem c_seq {x y : Code} (h : At cx (WC P n x (ThenQ (WC P n y Q) Q)) e L) : At cx (WC P n (.seq x y) Q) e L :=
  ⟨fun w hF hS => ⟨fun a ha => wp_seq (Code.wp_mono (fun x' a' w' hq => by
    obtain ⟨e', hs, hq⟩ := hq
    cases x' <;> first | exact ⟨e', hs, hq⟩ | exact WC.out hq a' hs) ((h.out w hF hS).out a ha))⟩⟩

theorem c_skip (h : At cx (Q .normal) e L) : At cx (WC P n .skip Q) e L :=
  ⟨fun w hF hS => ⟨fun _ ha => wp_skip ⟨e, ha, h.out w hF hS⟩⟩⟩

theorem c_ret (h : At cx (Q .ret) e L) : At cx (WC P n .ret Q) e L :=
  ⟨fun w hF hS => ⟨fun _ ha => wp_ret ⟨e, ha, h.out w hF hS⟩⟩⟩

theorem c_exit {id : Nat} (h : At cx (Q (.exit id)) e L) : At cx (WC P n (.exit id) Q) e L :=
  ⟨fun w hF hS => ⟨fun _ ha => wp_exit ⟨e, ha, h.out w hF hS⟩⟩⟩

theorem c_block {id : Nat} {c : Code} (h : At cx (WC P n c (BlockQ id Q)) e L) : At cx (WC P n (.block id c) Q) e L :=
  ⟨fun w hF hS => ⟨fun a ha => wp_block (Code.wp_mono (fun x' a' w' hq => by
    obtain ⟨e', hs, hq⟩ := hq
    cases x' with
    | exit i =>
      simp only [Exit.inBlock, lift]
      by_cases hi : i = id
      · simp only [hi, if_true]
        have hb : Nat.beq id id = true := by simp
        have hq' : (bif Nat.beq i id then Q .normal e' w' else Q (.exit i) e' w') := hq
        rw [hi, hb] at hq'
        exact ⟨e', hs, hq'⟩
      · have hb : Nat.beq i id = false := by simp [beq_eq, hi]
        have hq' : (bif Nat.beq i id then Q .normal e' w' else Q (.exit i) e' w') := hq
        rw [hb] at hq'
        simp only [hi, if_false]
        exact ⟨e', hs, hq'⟩
    | normal => exact ⟨e', hs, hq⟩
    | goto l => exact ⟨e', hs, hq⟩
    | ret => exact ⟨e', hs, hq⟩
    | panic c => exact ⟨e', hs, hq⟩
    | outgrown => exact ⟨e', hs, hq⟩) ((h.out w hF hS).out a ha))⟩⟩

theorem c_if {c : Operand} {x y : Code} {b : Bool} (hc : ev e c = .bool b) (ht : b = true → At cx (WC P n x Q) e L) (hf : b = false → At cx (WC P n y Q) e L) :
    At cx (WC P n (.cond c x y) Q) e L :=
  ⟨fun w hF hS => ⟨fun a ha => wp_cond_split (by rw [ha.ev]; exact hc) (fun hb => ((ht hb).out w hF hS).out a ha) (fun hb => ((hf hb).out w hF hS).out a ha)⟩⟩

theorem c_true {c : Operand} {x y : Code} (hc : ev e c = .bool true) (ht : At cx (WC P n x Q) e L) : At cx (WC P n (.cond c x y) Q) e L :=
  c_if hc (fun _ => ht) (fun h => by cases h)

theorem c_false {c : Operand} {x y : Code} (hc : ev e c = .bool false) (hf : At cx (WC P n y Q) e L) : At cx (WC P n (.cond c x y) Q) e L :=
  c_if hc (fun h => by cases h) (fun _ => hf)

theorem c_region {id : Nat} {l : List Oper} (h : At cx (WL P n l.toArray Q l) e L) : At cx (WC P n (.region id l.toArray false) Q) e L :=
  ⟨fun w hF hS => ⟨fun a ha => wp_region_lit ((h.out w hF hS).out a ha)⟩⟩

theorem l_nil {ops : Array Oper} (h : At cx (Q .normal) e L) : At cx (WL P n ops Q []) e L :=
  ⟨fun w hF hS => ⟨fun _ ha => wpList_nil ⟨e, ha, h.out w hF hS⟩⟩⟩

end rules

def BodyQ (P : Program) (fn : Func) (R : Value → World → Prop) : Post
  | .normal, e, w | .ret, e, w => ∀ tmps : Array Value, (∀ t, tmps.getD t undef = e t) → ∃ v, (results fn tmps).run P w = .ok v w ∧ R v w
  | _, _, _ => False

def Does (P : Program) (f : FuncId) (args : Array Value) (w : World) (R : Value → World → Prop) : Prop :=
  Calls P f args w fun en w' => ∃ v, en = .returned v ∧ R v w'

theorem Does.mono {P : Program} {f : FuncId} {args : Array Value} {w : World} {R R' : Value → World → Prop} (h : Does P f args w R) (hr : ∀ v w', R v w' → R' v w') : Does P f args w R' :=
  Calls.mono h fun _ _ ⟨v, he, hv⟩ => ⟨v, he, hr _ _ hv⟩

theorem getD_args (args : List Value) (k t : Nat) : (args.toArray ++ Array.replicate k undef).getD t undef = lget args t := by
  rw [lget_eq, Array.getD_eq_getD_getElem?, Array.getElem?_append]
  split
  · simp [List.getD_eq_getElem?_getD]
  · rename_i h
    have h' : args.length ≤ t := by simpa using h
    rw [List.getD_eq_getElem?_getD, List.getElem?_eq_none h']
    rw [Array.getElem?_replicate]
    split <;> rfl

theorem enter {P : Program} {f : FuncId} {fn : Func} {c : Code} {args : List Value} {n : Nat} {w : World} {R : Value → World → Prop} (hf : P.funcs[f]? = some fn) (hb : fn.body = some c) (hn : fn.ntmps = n) (hle : Nat.ble args.length n = true)
    (S0 : Nat → Prop) (L : List Chunk) (hL : Sat ⟨w, S0⟩ w L) (h : At ⟨w, S0⟩ (WC P n c (BodyQ P fn R)) (lget args) L) : Does P f args.toArray w R := by
  refine calls_of_wp hf hb ?_
  refine Code.wp_mono ?_ ((h.out w (Fr.refl w S0) hL).out _ ⟨rfl, ?_, ?_⟩)
  · rintro x a w' ⟨e, hs, hq⟩
    cases x with
    | normal =>
      obtain ⟨v, hr, hR⟩ := hq a.tmps hs.val
      exact ⟨hs.defers, v, hr, v, rfl, hR⟩
    | ret =>
      obtain ⟨v, hr, hR⟩ := hq a.tmps hs.val
      exact ⟨hs.defers, v, hr, v, rfl, hR⟩
    | exit i => exact hq.elim
    | goto i => exact hq.elim
    | panic i => exact hq.elim
    | outgrown => exact hq.elim
  · have hle' : args.length ≤ n := by simpa using hle
    simp only [hn, Array.size_append, List.size_toArray, Array.size_replicate]
    omega
  · intro t
    exact getD_args args _ t

end Go.Vc

namespace Go.Vc
open Go

def want (ops : Array Oper) (o : Oper) (e : Env) : Bool :=
  match o.guard with
  | none => true
  | some (j, b) => match (ops[j]?).bind (·.dst) with
    | none => false
    | some d => match e d, b with
      | .bool true, b => b
      | .bool false, true => false
      | .bool false, false => true
      | _, _ => false

theorem want_eq {n : Nat} {a : Act} {e : Env} (h : Sim n a e) (ops : Array Oper) (o : Oper) : Region.wanted o (yielded ops a.tmps) = want ops o e := by
  unfold Region.wanted want
  cases hg : o.guard with
  | none => rfl
  | some jb =>
    obtain ⟨j, b⟩ := jb
    simp only [yielded]
    cases hd : (ops[j]?).bind (·.dst) with
    | none => rfl
    | some d =>
      simp only [Option.bind_some]
      have hv := h.val d
      rw [Array.getD_eq_getD_getElem?] at hv
      cases ht : a.tmps[d]? with
      | none =>
        rw [ht] at hv
        simp only [Option.getD_none] at hv
        rw [← hv]
        rfl
      | some v =>
        rw [ht] at hv
        simp only [Option.getD_some] at hv
        rw [← hv]
        cases v <;> first | rfl | (rename_i x; cases x <;> cases b <;> rfl)

section rules
variable {P : Program} {n : Nat} {cx : Cx} {Q : Post} {e : Env} {L : List Chunk} {ops : Array Oper} {rest : List Oper}

theorem l_passed {o : Oper} {d : Nat} (hw : want ops o e = false) (hd : o.dst = some d) (hn : Nat.blt d n = true) (k : At cx (WL P n ops Q rest) (upd e d undef) L) : At cx (WL P n ops Q (o :: rest)) e L :=
  ⟨fun w hF hS => ⟨fun a ha => by
    unfold wpList
    rw [want_eq ha, hw]
    rw [hd]
    exact (k.out w hF hS).out _ (ha.put hn undef)⟩⟩

theorem l_yields {o : Oper} {d : Nat} (hw : want ops o e = true) (hd : o.dst = some d) (hn : Nat.blt d n = true)
    (h : ∀ w, Fr cx w → Sat cx w L → ∃ v w', (execOp (ev e) o).run P w = .ok (.value v) w' ∧ WL P n ops Q rest (upd e d v) w') : At cx (WL P n ops Q (o :: rest)) e L :=
  ⟨fun w hF hS => ⟨fun a ha => by
    obtain ⟨v, w', hr, hk⟩ := h w hF hS
    unfold wpList
    rw [want_eq ha, hw, if_pos rfl]
    refine .inl ?_
    unfold Oper.wp
    rw [ha.ev, hr]
    show wpList P ops (lift n Q) rest (a.put o.dst v) w'
    rw [hd]
    exact hk.out _ (ha.put hn v)⟩⟩

theorem l_acts {o : Oper} (hw : want ops o e = true) (hd : o.dst = none)
    (h : ∀ w, Fr cx w → Sat cx w L → ∃ w', (execOp (ev e) o).run P w = .ok .skip w' ∧ WL P n ops Q rest e w') : At cx (WL P n ops Q (o :: rest)) e L :=
  ⟨fun w hF hS => ⟨fun a ha => by
    obtain ⟨w', hr, hk⟩ := h w hF hS
    unfold wpList
    rw [want_eq ha, hw, if_pos rfl]
    refine .inl ?_
    unfold Oper.wp
    rw [ha.ev, hr]
    show wpList P ops (lift n Q) rest (a.put o.dst undef) w'
    rw [hd]
    exact hk.out _ ha⟩⟩

theorem l_calls {o : Oper} {d : Nat} {f : FuncId} {args : Array Value} (hw : want ops o e = true) (hd : o.dst = some d) (hn : Nat.blt d n = true)
    (hr : ∀ w, (execOp (ev e) o).run P w = .ok (.enter f args) w)
    (h : ∀ w, Fr cx w → Sat cx w L → Does P f args w fun v w' => WL P n ops Q rest (upd e d v) w') : At cx (WL P n ops Q (o :: rest)) e L :=
  ⟨fun w hF hS => ⟨fun a ha => by
    unfold wpList
    rw [want_eq ha, hw, if_pos rfl]
    refine .inl ?_
    unfold Oper.wp
    rw [ha.ev, hr]
    show Calls P f args w _
    refine Calls.mono (h w hF hS) ?_
    rintro en w' ⟨v, rfl, hk⟩
    show wpList P ops (lift n Q) rest (a.put o.dst v) w'
    rw [hd]
    exact hk.out _ (ha.put hn v)⟩⟩

theorem l_val {o : Oper} {d : Nat} {v : Value} (hw : want ops o e = true) (hd : o.dst = some d) (hn : Nat.blt d n = true)
    (hr : ∀ w, (execOp (ev e) o).run P w = .ok (.value v) w) (k : At cx (WL P n ops Q rest) (upd e d v) L) : At cx (WL P n ops Q (o :: rest)) e L :=
  l_yields hw hd hn fun w hF hS => ⟨v, w, hr w, k.out w hF hS⟩

section ops
variable {d : Option Nat} {ty : TypeId} {pos : String} {af : Array Edge} {g : Option (Nat × Bool)}

theorem r_move {X : Operand} {v : Value} (hx : ev e X = v) (w : World) :
    (execOp (ev e) ⟨d, .move X, ty, pos, af, g⟩).run P w = .ok (.value v) w :=
  by subst hx; rfl

theorem r_assign {X : Operand} {v : Value} (hx : ev e X = v) (w : World) :
    (execOp (ev e) ⟨d, .assign X, ty, pos, af, g⟩).run P w = .ok (.value v) w :=
  by subst hx; rfl

theorem r_pickT {c A B : Operand} {v : Value} (hc : ev e c = .bool true) (hx : ev e A = v) (w : World) :
    (execOp (ev e) ⟨d, .pick c A B, ty, pos, af, g⟩).run P w = .ok (.value v) w :=
  by subst hx; simp [execOp, hc, asBool]

theorem r_pickF {c A B : Operand} {v : Value} (hc : ev e c = .bool false) (hx : ev e B = v) (w : World) :
    (execOp (ev e) ⟨d, .pick c A B, ty, pos, af, g⟩).run P w = .ok (.value v) w :=
  by subst hx; simp [execOp, hc, asBool]

theorem split {K : Env → World → Prop} {b : Bool} {d : Nat} (ht : b = true → At cx K (upd e d (.bool true)) L) (hf : b = false → At cx K (upd e d (.bool false)) L) : At cx K (upd e d (.bool b)) L := by
  cases b
  · exact hf rfl
  · exact ht rfl

theorem r_not {X : Operand} {b : Bool} {t : TypeId} (hx : ev e X = .bool b) (w : World) :
    (execOp (ev e) ⟨d, .unOp .not t X, ty, pos, af, g⟩).run P w = .ok (.value (.bool (!b))) w :=
  by simp [execOp, hx, Op.unary]

section bin
variable {X Y : Operand} {x y : Int} {t t' : TypeId} {kd : IntKind}

theorem run_guard_int (w : World) (op : BinOp) : (eqGuard op t X Y (.int kd x) (.int kd y)).run P w = .ok () w := by
  unfold eqGuard; cases op <;> rfl

theorem r_bin {op : BinOp} {v : Value} (hx : ev e X = .int kd x) (hy : ev e Y = .int kd y)
    (hr : ∀ w, (binOp op t (.int kd x) (.int kd y)).run P w = .ok v w) (w : World) :
    (execOp (ev e) ⟨d, .binOp op t X Y t', ty, pos, af, g⟩).run P w = .ok (.value v) w :=
  by simp [execOp, hx, hy, run_guard_int, hr]

theorem r_add (hx : ev e X = .int .i64 x) (hy : ev e Y = .int .i64 y)
    (hr : -9223372036854775808 ≤ x + y ∧ x + y ≤ 9223372036854775807) (w : World) :
    (execOp (ev e) ⟨d, .binOp .add t X Y t', ty, pos, af, g⟩).run P w = .ok (.value (.int .i64 (x + y))) w :=
  r_bin hx hy (fun w => by simp [binOp, Op.intArith, IntWalk.i64_in _ hr]) w

theorem r_sub (hx : ev e X = .int .i64 x) (hy : ev e Y = .int .i64 y)
    (hr : -9223372036854775808 ≤ x - y ∧ x - y ≤ 9223372036854775807) (w : World) :
    (execOp (ev e) ⟨d, .binOp .sub t X Y t', ty, pos, af, g⟩).run P w = .ok (.value (.int .i64 (x - y))) w :=
  r_bin hx hy (fun w => by simp [binOp, Op.intArith, IntWalk.i64_in _ hr]) w

theorem r_mul (hx : ev e X = .int .i64 x) (hy : ev e Y = .int .i64 y)
    (hr : -9223372036854775808 ≤ x * y ∧ x * y ≤ 9223372036854775807) (w : World) :
    (execOp (ev e) ⟨d, .binOp .mul t X Y t', ty, pos, af, g⟩).run P w = .ok (.value (.int .i64 (x * y))) w :=
  r_bin hx hy (fun w => by simp [binOp, Op.intArith, IntWalk.i64_in _ hr]) w

theorem r_lss (hx : ev e X = .int kd x) (hy : ev e Y = .int kd y) (w : World) :
    (execOp (ev e) ⟨d, .binOp .lss t X Y t', ty, pos, af, g⟩).run P w = .ok (.value (.bool (decide (x < y)))) w :=
  r_bin hx hy (fun w => by simp [binOp, Op.intCmp]) w

theorem r_leq (hx : ev e X = .int kd x) (hy : ev e Y = .int kd y) (w : World) :
    (execOp (ev e) ⟨d, .binOp .leq t X Y t', ty, pos, af, g⟩).run P w = .ok (.value (.bool (decide (x ≤ y)))) w :=
  r_bin hx hy (fun w => by simp [binOp, Op.intCmp]) w

theorem r_gtr (hx : ev e X = .int kd x) (hy : ev e Y = .int kd y) (w : World) :
    (execOp (ev e) ⟨d, .binOp .gtr t X Y t', ty, pos, af, g⟩).run P w = .ok (.value (.bool (decide (y < x)))) w :=
  r_bin hx hy (fun w => by simp [binOp, Op.intCmp]) w

theorem r_geq (hx : ev e X = .int kd x) (hy : ev e Y = .int kd y) (w : World) :
    (execOp (ev e) ⟨d, .binOp .geq t X Y t', ty, pos, af, g⟩).run P w = .ok (.value (.bool (decide (y ≤ x)))) w :=
  r_bin hx hy (fun w => by simp [binOp, Op.intCmp]) w

theorem r_eql (hx : ev e X = .int kd x) (hy : ev e Y = .int kd y) (w : World) :
    (execOp (ev e) ⟨d, .binOp .eql t X Y t', ty, pos, af, g⟩).run P w = .ok (.value (.bool (decide (x = y)))) w :=
  r_bin hx hy (fun w => by simp [binOp, Op.intCmp]; rfl) w

theorem r_neq (hx : ev e X = .int kd x) (hy : ev e Y = .int kd y) (w : World) :
    (execOp (ev e) ⟨d, .binOp .neq t X Y t', ty, pos, af, g⟩).run P w = .ok (.value (.bool (decide (x ≠ y)))) w :=
  r_bin hx hy (fun w => by simp [binOp, Op.intCmp, bne]; rfl) w

end bin

theorem r_extract {X : Operand} {ix : Nat} {vs : Array Value} {v : Value} (hx : ev e X = .tuple vs) (hv : vs[ix]? = some v) (w : World) :
    (execOp (ev e) ⟨d, .extract X ix, ty, pos, af, g⟩).run P w = .ok (.value v) w :=
  by simp [execOp, hx, Instr.extract, hv]

theorem r_min {X Y : Operand} {x y : Int} {kd : IntKind} {tys : Array TypeId}
    (hx : ev e X = .int kd x) (hy : ev e Y = .int kd y) (w : World) :
    (execOp (ev e) ⟨d, .call ⟨.builtin .min, #[X, Y], tys⟩, ty, pos, af, g⟩).run P w = .ok (.value (.int kd (min x y))) w :=
  by
    have : (if y < x then y else x) = min x y := by rw [Int.min_def]; split <;> split <;> omega
    simp [execOp, resolve, invoke, builtin, hx, hy, Builtin.min_, Builtin.min2, this]

theorem r_max {X Y : Operand} {x y : Int} {kd : IntKind} {tys : Array TypeId}
    (hx : ev e X = .int kd x) (hy : ev e Y = .int kd y) (w : World) :
    (execOp (ev e) ⟨d, .call ⟨.builtin .max, #[X, Y], tys⟩, ty, pos, af, g⟩).run P w = .ok (.value (.int kd (max x y))) w :=
  by
    have : (if y > x then y else x) = max x y := by rw [Int.max_def]; split <;> split <;> omega
    simp [execOp, resolve, invoke, builtin, hx, hy, Builtin.max_, Builtin.max2]; simpa using this

theorem r_build {t : TypeId} {parts : Array (Nat × Operand)} {fs : Array Field} {pl : Array (Nat × Nat)} {z cells : Array Value} {ps : List (Nat × Value)}
    (hz : ∀ w, (zeroValue t).run P w = .ok (.agg z) w) (hu : ∀ w, (underlying t).run P w = .ok (.struct fs) w)
    (hpl : ∀ w, (fs.mapM fun f => do pure (f.offset, ← sizeOf f.type) : Sem (Array (Nat × Nat))).run P w = .ok pl w)
    
    (hps : parts.toList.map (fun (i, x) => (i, ev e x)) = ps) (hf : Instr.fill (pl[·]?) z ps = some cells) (w : World) :
    (execOp (ev e) ⟨d, .build t parts, ty, pos, af, g⟩).run P w = .ok (.value (.agg cells)) w :=
  by
    have hz' : (Value.agg z).cells = z := rfl
    have hps' : (parts.map fun (i, x) => (i, ev e x)).toList = ps := by rw [← hps, Array.toList_map]
    simp only [execOp, Instr.build, Sem.run_bind, hz, hu, Result.andThen_ok, hpl, hps', hz', hf, Sem.run_pure]

end ops
end rules
end Go.Vc

namespace Go.Vc
open Go


def cellsC (b : Nat) (cs : List Value) (T : TypeId) : Chunk where
  P S w := (∀ x, S x ↔ x = b) ∧ w.heap[b]? = some (.cells cs.toArray T (0, 0))
  loc S w w' h hp := ⟨hp.1, by rw [h b ((hp.1 b).2 rfl)]; exact hp.2⟩

def rdn : List Value → Nat → Option (List Value)
  | _, 0 => some []
  | [], _ + 1 => none
  | v :: r, k + 1 => (rdn r k).map (v :: ·)
def rd : List Value → Nat → Nat → Option (List Value)
  | cs, 0, k => rdn cs k
  | [], _ + 1, k => rdn [] k
  | _ :: r, o + 1, k => rd r o k
def wrn : List Value → List Value → Option (List Value)
  | cs, [] => some cs
  | [], _ :: _ => none
  | _ :: r, v :: vs => (wrn r vs).map (v :: ·)
def wr : List Value → Nat → List Value → Option (List Value)
  | cs, 0, vs => wrn cs vs
  | [], _ + 1, [] => some []
  | [], _ + 1, _ :: _ => none
  | c :: r, o + 1, vs => (wr r o vs).map (c :: ·)

def rg : List Value → Nat → Option Value
  | [], _ => none
  | v :: _, 0 => some v
  | _ :: r, k + 1 => rg r k

theorem rg_eq : ∀ (cs : List Value) (k : Nat), rg cs k = cs[k]?
  | [], _ => by simp [rg]
  | v :: r, 0 => by simp [rg]
  | v :: r, k + 1 => by simp [rg, rg_eq r k]

theorem rdn_get {cs : List Value} : ∀ {k : Nat} {vs : List Value}, rdn cs k = some vs → vs.length = k ∧ ∀ (j : Nat) (v : Value), vs[j]? = some v → cs[j]? = some v := by
  induction cs with
  | nil => intro k vs h; cases k <;> simp [rdn] at h; subst h; exact ⟨rfl, by simp⟩
  | cons c r ih =>
    intro k vs h
    cases k with
    | zero => simp [rdn] at h; subst h; exact ⟨rfl, by simp⟩
    | succ k =>
      simp only [rdn, Option.map_eq_some_iff] at h
      obtain ⟨x, hx, rfl⟩ := h
      obtain ⟨h1, h2⟩ := ih hx
      refine ⟨by simp [h1], fun j v hv => ?_⟩
      cases j with
      | zero => simpa using hv
      | succ j => simp at hv ⊢; exact h2 j v hv

theorem rd_get {cs : List Value} {o k : Nat} {vs : List Value} (h : rd cs o k = some vs) : vs.length = k ∧ ∀ (j : Nat) (v : Value), vs[j]? = some v → cs[o + j]? = some v := by
  induction cs generalizing o with
  | nil =>
    cases o with
    | zero => simpa using rdn_get h
    | succ o =>
      obtain ⟨h1, h2⟩ := rdn_get (cs := []) (by simpa [rd] using h)
      exact ⟨h1, fun j v hv => by have := h2 j v hv; simp at this⟩
  | cons c r ih =>
    cases o with
    | zero => simpa using rdn_get h
    | succ o =>
      obtain ⟨h1, h2⟩ := ih (o := o) (by simpa [rd] using h)
      exact ⟨h1, fun j v hv => by have := h2 j v hv; rw [show o + 1 + j = (o + j) + 1 from by omega]; simpa using this⟩

theorem wrn_eq {cs vs cs' : List Value} (h : wrn cs vs = some cs') : vs.length ≤ cs.length ∧ cs' = vs ++ cs.drop vs.length := by
  induction vs generalizing cs cs' with
  | nil => cases cs <;> simp [wrn] at h <;> subst h <;> simp
  | cons v vs ih =>
    cases cs with
    | nil => simp [wrn] at h
    | cons c r =>
      simp only [wrn, Option.map_eq_some_iff] at h
      obtain ⟨x, hx, rfl⟩ := h
      obtain ⟨h1, h2⟩ := ih hx
      exact ⟨by simp; omega, by simp [h2]⟩

theorem wr_eq {cs vs cs' : List Value} {o : Nat} (h : wr cs o vs = some cs') (hne : 0 < vs.length) : o + vs.length ≤ cs.length ∧ cs' = cs.take o ++ vs ++ cs.drop (o + vs.length) := by
  induction cs generalizing o cs' with
  | nil =>
    cases o with
    | zero => obtain ⟨h1, h2⟩ := wrn_eq (cs := []) (by simpa [wr] using h); simp at h1; simp [h1] at hne
    | succ o => cases vs <;> simp [wr] at h hne
  | cons c r ih =>
    cases o with
    | zero => obtain ⟨h1, h2⟩ := wrn_eq (cs := c :: r) (by simpa [wr] using h); exact ⟨by simpa using h1, by simp [h2]⟩
    | succ o =>
      simp only [wr, Option.map_eq_some_iff] at h
      obtain ⟨x, hx, rfl⟩ := h
      obtain ⟨h1, h2⟩ := ih hx
      refine ⟨by simp; omega, ?_⟩
      rw [show o + 1 + vs.length = (o + vs.length) + 1 from by omega]
      simp [h2]

theorem grow_alloc (w : World) (o : Obj) : Grow w (w.alloc o) := Go.RowKit.Below.alloc (Go.RowKit.Below.refl _ _) (Nat.le_refl _) o

theorem run_newVar {P : Program} (t : TypeId) (v : Value) (w : World) : (newVar t v).run P w = .ok ⟨w.heap.size, 0, none⟩ (w.alloc (.cells v.cells t)) := by
  simp [newVar, newRow, newObj, Sem.run]

section rules
variable {P : Program} {n : Nat} {cx : Cx} {Q : Post} {e : Env} {L : List Chunk} {ops : Array Oper} {rest : List Oper}
variable {d : Nat} {ty : TypeId} {pos : String} {af : Array Edge} {g : Option (Nat × Bool)}

theorem sat_new {w : World} (hF : Fr cx w) (hS : Sat cx w L) (cs : List Value) (T : TypeId) : Sat cx (w.alloc (.cells cs.toArray T)) (L ++ [cellsC w.heap.size cs T]) :=
  hS.snoc hF (grow_alloc w _) (S := fun x => x = w.heap.size) ⟨fun _ => Iff.rfl, heap_alloc_new w _⟩ (fun b hb => by subst hb; exact ⟨Nat.le_refl _, by simp⟩)

theorem l_box {T : TypeId} {X : Operand} {x : Value} {cs : List Value} (hw : want ops ⟨some d, .box T X, ty, pos, af, g⟩ e = true) (hn : Nat.blt d n = true) (hx : ev e X = x) (hc : x.cells.toList = cs)
    (k : ∀ b, At cx (WL P n ops Q rest) (upd e d (.pointer (some ⟨b, 0, none⟩))) (L ++ [cellsC b cs T])) : At cx (WL P n ops Q (⟨some d, .box T X, ty, pos, af, g⟩ :: rest)) e L :=
  l_yields hw rfl hn fun w hF hS => ⟨.pointer (some ⟨w.heap.size, 0, none⟩), w.alloc (.cells cs.toArray T), by
    subst hc
    simp [execOp, Instr.box, run_newVar, hx], (k w.heap.size).out _ (hF.grow (grow_alloc w _)) (sat_new hF hS cs T)⟩

theorem l_alloc {T : TypeId} {z : Value} {cs : List Value} (hz : ∀ w, (zeroValue T).run P w = .ok z w) (hc : z.cells.toList = cs) (hw : want ops ⟨some d, .alloc T, ty, pos, af, g⟩ e = true) (hn : Nat.blt d n = true)
    (k : ∀ b, At cx (WL P n ops Q rest) (upd e d (.pointer (some ⟨b, 0, none⟩))) (L ++ [cellsC b cs T])) : At cx (WL P n ops Q (⟨some d, .alloc T, ty, pos, af, g⟩ :: rest)) e L :=
  l_yields hw rfl hn fun w hF hS => ⟨.pointer (some ⟨w.heap.size, 0, none⟩), w.alloc (.cells cs.toArray T), by
    subst hc
    simp [execOp, Instr.alloc, hz, run_newVar], (k w.heap.size).out _ (hF.grow (grow_alloc w _)) (sat_new hF hS cs T)⟩

theorem sat_cell {w : World} {i b : Nat} {cs : List Value} {T : TypeId} (hS : Sat cx w L) (hL : L[i]? = some (cellsC b cs T)) : w.heap[b]? = some (.cells cs.toArray T (0, 0)) := by
  obtain ⟨fp, h1, _, _⟩ := hS.out
  exact (h1 i _ hL).2

theorem cell_of {w : World} {b o : Nat} {cs : List Value} {T : TypeId} (h : w.heap[b]? = some (.cells cs.toArray T (0, 0))) : w.cell? ⟨b, o, none⟩ = cs[o]? := by
  simp [World.cell?, h]

theorem run_loadVar_agg {T k b o : Nat} {vs : List Value} {w : World} (hA : ∀ w, (isAgg T).run P w = .ok true w) (hs : ∀ w, (sizeOf T).run P w = .ok k w) (hl : vs.length = k)
    (h : ∀ j v, vs[j]? = some v → w.cell? ⟨b, o + j, none⟩ = some v) : (loadVar T ⟨b, o, none⟩).run P w = .ok (.agg vs.toArray) w := by
  subst hl
  have := run_loadCells_list (P := P) (w := w) ⟨b, o, none⟩ vs (fun j v hv => by rw [Addr.add_lit]; exact h j v hv)
  simp [loadVar, hA, hs, this]

theorem run_loadVar_one {T b o : Nat} {v : Value} {w : World} (hA : ∀ w, (isAgg T).run P w = .ok false w) (h : w.cell? ⟨b, o, none⟩ = some v) : (loadVar T ⟨b, o, none⟩).run P w = .ok v w := by
  simp [loadVar, hA, Go.load, Sem.run, h]

theorem l_load1 {i : Nat} {T T0 b o : Nat} {A : Operand} {cs : List Value} {v : Value} (hA : ∀ w, (isAgg T).run P w = .ok false w)
    (hw : want ops ⟨some d, .load T A, ty, pos, af, g⟩ e = true) (hn : Nat.blt d n = true) (hp : ev e A = .pointer (some ⟨b, o, none⟩)) (hL : L[i]? = some (cellsC b cs T0)) (hv : rg cs o = some v)
    (k : At cx (WL P n ops Q rest) (upd e d v) L) : At cx (WL P n ops Q (⟨some d, .load T A, ty, pos, af, g⟩ :: rest)) e L :=
  l_yields hw rfl hn fun w hF hS => ⟨v, w, by
    have hc := cell_of (o := o) (sat_cell hS hL)
    rw [← rg_eq, hv] at hc
    simp [execOp, Instr.loadAt, Instr.sureAddr, hp, run_loadVar_one hA hc], k.out w hF hS⟩

theorem l_loadN {i : Nat} {T T0 b o sz : Nat} {A : Operand} {cs vs : List Value} (hA : ∀ w, (isAgg T).run P w = .ok true w) (hs : ∀ w, (sizeOf T).run P w = .ok sz w)
    (hw : want ops ⟨some d, .load T A, ty, pos, af, g⟩ e = true) (hn : Nat.blt d n = true) (hp : ev e A = .pointer (some ⟨b, o, none⟩)) (hL : L[i]? = some (cellsC b cs T0)) (hv : rd cs o sz = some vs)
    (k : At cx (WL P n ops Q rest) (upd e d (.agg vs.toArray)) L) : At cx (WL P n ops Q (⟨some d, .load T A, ty, pos, af, g⟩ :: rest)) e L :=
  l_yields hw rfl hn fun w hF hS => ⟨.agg vs.toArray, w, by
    obtain ⟨h1, h2⟩ := rd_get hv
    have hr := run_loadVar_agg (P := P) (w := w) (b := b) (o := o) hA hs h1 (fun j v hj => by rw [cell_of (sat_cell hS hL)]; exact h2 j v hj)
    simp [execOp, Instr.loadAt, Instr.sureAddr, hp, hr], k.out w hF hS⟩

theorem l_store {i : Nat} {T T0 b o sz : Nat} {A X : Operand} {x : Value} {cs cs' vs : List Value} (hs : ∀ w, (sizeOf T).run P w = .ok sz w)
    (hw : want ops ⟨none, .store T A X, ty, pos, af, g⟩ e = true) (hp : ev e A = .pointer (some ⟨b, o, none⟩)) (hx : ev e X = x) (hc : x.cells.toList = vs) (hsz : vs.length = sz) (hpos : Nat.blt 0 sz = true)
    (hone : vs.all Value.oneCell' = true)
    (hL : L[i]? = some (cellsC b cs T0)) (hv : wr cs o vs = some cs')
    (k : At cx (WL P n ops Q rest) e (L.set i (cellsC b cs' T0))) : At cx (WL P n ops Q (⟨none, .store T A X, ty, pos, af, g⟩ :: rest)) e L :=
  l_acts hw rfl fun w hF hS => by
    have hb := sat_cell hS hL
    have hpos' : 0 < vs.length := by rw [hsz]; simpa using hpos
    obtain ⟨h1, h2⟩ := wr_eq hv hpos'
    have hst := run_storeCells_at P b o T0 vs 0 cs.toArray w hb (by simpa using h1) (by simpa using hone)
    refine ⟨w.setRow b cs'.toArray, ?_, ?_⟩
    · have hsz' : x.cells.size = sz := by rw [← hsz, ← hc]; simp
      simp only [Nat.add_zero, List.append_assoc] at hst
      simp only [execOp, Instr.storeAt, Instr.sureAddr, storeVar, hp, hx, Sem.run_bind, Sem.run_pure, Result.andThen_ok, hs, hsz', ne_eq, not_true_eq_false, if_false, hc, hst]
      rw [h2]; simp
    · have hset := setRow_heap w b cs.toArray cs'.toArray T0 (0, 0) hb
      refine k.out _ ⟨hF.os, hF.tape, hF.output, by simpa using hF.size, fun c hcn => ?_⟩ ?_
      · rw [setRow_other w b c _ (fun e => ?_)]
        · exact hF.block c hcn
        · obtain ⟨fp, f1, f2, _⟩ := hS.out
          have := (f2 i b ((f1 i _ hL).1 b |>.2 rfl)).2.2
          subst e
          exact hcn this
      · refine hS.set hF hL (by simp) fun S hSp hSo => ⟨S, ⟨hSp.1, hset⟩, fun c hc => ⟨by simpa using (hSo c hc).1, .inl hc⟩, fun c _ hcS => setRow_other w b c _ (fun e => hcS ((hSp.1 c).2 e))⟩

theorem r_field {d : Option Nat} {T fld b o fo ft fsz bo : Nat} {nm tg pk : String} {em : Bool} {X : Operand} {fs : Array Field} (hu : ∀ w, (underlying T).run P w = .ok (.struct fs) w)
    (hf : fs[fld]? = some ⟨nm, ft, fo, em, tg, pk, bo⟩) (hs : ∀ w, (sizeOf ft).run P w = .ok fsz w) (hsz : Nat.blt 0 fsz = true) (hp : ev e X = .pointer (some ⟨b, o, none⟩)) (w : World) :
    (execOp (ev e) ⟨d, .fieldAddr T X fld, ty, pos, af, g⟩).run P w = .ok (.value (.pointer (some ⟨b, o + fo, none⟩))) w := by
  have hne : fsz ≠ 0 := by have : 0 < fsz := by simpa using hsz
                           omega
  simp [execOp, Instr.fieldAt, hu, hf, Instr.sureAddr, hp, fieldPlace, hs, hne, Addr.add_lit]


def Ret (P : Program) (f : FuncId) (args : List Value) (v : Value) : Prop := ∀ w, Does P f args.toArray w fun v' w' => v' = v ∧ Grow w w'

theorem run_call {f : FuncId} {A : Array Operand} {tys : Array TypeId} {args : List Value} (hc : ∀ args w, (callFunc f args).run P w = .ok (.enter f args) w) (ha : A.toList.map (ev e) = args) (w : World) :
    (execOp (ev e) ⟨some d, .call ⟨.value (.func f), A, tys⟩, ty, pos, af, g⟩).run P w = .ok (.enter f args.toArray) w := by
  subst ha
  have : (A.toList.map (ev e)).toArray = A.map (ev e) := by rw [← Array.toList_map, Array.toArray_toList]
  rw [this]
  simp only [execOp, resolve, ev, Deferred.ofValue, Sem.run_bind, Sem.run_pure, Result.andThen_ok, invoke, hc, Array.append_empty, Array.empty_append]

theorem l_call {f : FuncId} {A : Array Operand} {tys : Array TypeId} {args : List Value} {v : Value} (h : Ret P f args v) (hc : ∀ args w, (callFunc f args).run P w = .ok (.enter f args) w)
    (hw : want ops ⟨some d, .call ⟨.value (.func f), A, tys⟩, ty, pos, af, g⟩ e = true) (hn : Nat.blt d n = true) (ha : A.toList.map (ev e) = args)
    (k : At cx (WL P n ops Q rest) (upd e d v) L) : At cx (WL P n ops Q (⟨some d, .call ⟨.value (.func f), A, tys⟩, ty, pos, af, g⟩ :: rest)) e L :=
  l_calls hw rfl hn (run_call hc ha) fun w hF hS => (h w).mono fun v' w' ⟨hv, hg⟩ => by
    subst hv
    exact k.out w' (hF.grow hg) (hS.grow hg)


theorem results_one {fn : Func} {t : Tmp} (h : fn.results = #[.tmp t]) (tmps : Array Value) (w : World) : (results fn tmps).run P w = .ok (tmps.getD t undef) w := by
  simp [results, h]

theorem results_two {fn : Func} {t u : Tmp} (h : fn.results = #[.tmp t, .tmp u]) (tmps : Array Value) (w : World) : (results fn tmps).run P w = .ok (.tuple #[tmps.getD t undef, tmps.getD u undef]) w := by
  simp [results, h]

theorem results_three {fn : Func} {t u s : Tmp} (h : fn.results = #[.tmp t, .tmp u, .tmp s]) (tmps : Array Value) (w : World) : (results fn tmps).run P w = .ok (.tuple #[tmps.getD t undef, tmps.getD u undef, tmps.getD s undef]) w := by
  simp [results, h]

theorem ret1 {fn : Func} {R : Value → World → Prop} {t : Tmp} {v : Value} (hr : fn.results = #[.tmp t]) (ht : e t = v) (k : ∀ w, Fr cx w → Sat cx w L → R v w) : At cx (BodyQ P fn R .ret) e L :=
  ⟨fun w hF hS tmps hs => ⟨v, by rw [results_one hr, hs, ht], k w hF hS⟩⟩

theorem ret2 {fn : Func} {R : Value → World → Prop} {t u : Tmp} {v1 v2 : Value} (hr : fn.results = #[.tmp t, .tmp u]) (h1 : e t = v1) (h2 : e u = v2) (k : ∀ w, Fr cx w → Sat cx w L → R (.tuple #[v1, v2]) w) : At cx (BodyQ P fn R .ret) e L :=
  ⟨fun w hF hS tmps hs => ⟨.tuple #[v1, v2], by rw [results_two hr, hs, hs, h1, h2], k w hF hS⟩⟩

theorem ret3 {fn : Func} {R : Value → World → Prop} {t u s : Tmp} {v1 v2 v3 : Value} (hr : fn.results = #[.tmp t, .tmp u, .tmp s]) (h1 : e t = v1) (h2 : e u = v2) (h3 : e s = v3) (k : ∀ w, Fr cx w → Sat cx w L → R (.tuple #[v1, v2, v3]) w) : At cx (BodyQ P fn R .ret) e L :=
  ⟨fun w hF hS tmps hs => ⟨.tuple #[v1, v2, v3], by rw [results_three hr, hs, hs, hs, h1, h2, h3], k w hF hS⟩⟩

theorem results_cell1 {fn : Func} {t T b : Nat} {v : Value} (h : fn.results = #[.cell t T]) (tmps : Array Value) (w : World) (ht : tmps.getD t undef = .pointer (some ⟨b, 0, none⟩)) (hl : (loadVar T ⟨b, 0, none⟩).run P w = .ok v w) :
    (results fn tmps).run P w = .ok v w := by
  rw [Array.getD_eq_getD_getElem?] at ht
  simp [results, h, ht, asAddr, hl]

theorem retC {i : Nat} {fn : Func} {R : Value → World → Prop} {t T T0 b sz : Nat} {cs vs : List Value} (hA : ∀ w, (isAgg T).run P w = .ok true w) (hs : ∀ w, (sizeOf T).run P w = .ok sz w) (hr : fn.results = #[.cell t T])
    (ht : e t = .pointer (some ⟨b, 0, none⟩)) (hL : L[i]? = some (cellsC b cs T0)) (hv : rd cs 0 sz = some vs) (k : ∀ w, Fr cx w → Sat cx w L → R (.agg vs.toArray) w) : At cx (BodyQ P fn R .ret) e L :=
  ⟨fun w hF hS tmps hts => ⟨.agg vs.toArray, by
    obtain ⟨h1, h2⟩ := rd_get hv
    have hl := run_loadVar_agg (P := P) (w := w) (b := b) (o := 0) hA hs h1 (fun j v hj => by rw [cell_of (sat_cell hS hL)]; exact h2 j v hj)
    exact results_cell1 hr tmps w (by rw [hts, ht]) hl, k w hF hS⟩⟩

theorem fin {w0 : World} {L : List Chunk} {v v' : Value} (h : v' = v) : ∀ w, Fr ⟨w0, fun _ => False⟩ w → Sat ⟨w0, fun _ => False⟩ w L → (v' = v ∧ Grow w0 w) :=
  fun w hF _ => ⟨h, hF.os, hF.tape, hF.output, hF.size, fun k hk => hF.block k (by simp [Cx.own]; exact hk)⟩

theorem enterRet {f : FuncId} {fn : Func} {c : Code} {args : List Value} {v : Value} (hf : P.funcs[f]? = some fn) (hb : fn.body = some c) (hn : fn.ntmps = n) (hle : Nat.ble args.length n = true)
    (h : ∀ w, At ⟨w, fun _ => False⟩ (WC P n c (BodyQ P fn fun v' w' => v' = v ∧ Grow w w')) (lget args) []) : Ret P f args v :=
  fun w => enter hf hb hn hle (fun _ => False) [] (Sat.nil _ _) (h w)


def mkE : List (Nat × Value) → Env → Env
  | [], g => g
  | (a, v) :: r, g => fun t => bif Nat.beq t a then v else mkE r g t

def Agree (e : Env) : List (Nat × Value) → Prop
  | [] => True
  | (a, v) :: r => e a = v ∧ Agree e r

theorem mkE_self (e : Env) : ∀ l, Agree e l → mkE l e = e
  | [], _ => rfl
  | (a, v) :: r, ⟨h, hr⟩ => by
    funext t
    simp only [mkE, beq_eq, mkE_self e r hr]
    by_cases ht : t = a
    · simp [ht, h]
    · simp [ht]

structure RoundEnd {σ : Type} (cx : Cx) (st : σ → List (Nat × Value)) (hp : σ → List Chunk) (I : σ → Prop) (m : Nat) (μ : σ → Nat) (e : Env) (w : World) : Prop where
  out : ∃ s, Agree e (st s) ∧ Fr cx w ∧ Sat cx w (hp s) ∧ I s ∧ μ s < m

theorem c_loop {σ : Type} {c : Code} (st : σ → List (Nat × Value)) (hp : σ → List Chunk) (I : σ → Prop) (μ : σ → Nat) (s0 : σ) (sel : List Nat) (hI : I s0) (hst : Agree e (st s0)) (hnd : sel.Nodup) (hL : sel.map (fun i => L[i]?) = (hp s0).map some)
    (round : ∀ s g, I s → At cx (WC P n c (ThenQ (RoundEnd cx st hp I (μ s) μ) Q)) (mkE (st s) g) (hp s)) : At cx (WC P n (.loop c) Q) e L :=
  ⟨fun w hF hS => ⟨fun a ha => by
    refine wp_loop_ghost (fun m a' w' => ∃ e' s, Sim n a' e' ∧ Agree e' (st s) ∧ Fr cx w' ∧ Sat cx w' (hp s) ∧ I s ∧ μ s = m) (μ s0) ⟨e, s0, ha, hst, hF, hS.select sel hnd hL, hI, rfl⟩ ?_
    rintro m a w ⟨e, s, ha, hst, hF, hS, hI, rfl⟩
    have hr := ((round s e hI).out w hF hS).out a (by rw [mkE_self e _ hst]; exact ha)
    refine wp_mono hr ?_
    rintro x a' w' ⟨e', hs', hq⟩
    cases x with
    | normal =>
      obtain ⟨s', h1, h2, h3, h4, h5⟩ := hq.out
      exact ⟨μ s', h5, e', s', hs', h1, h2, h3, h4, rfl⟩
    | exit i => exact ⟨e', hs', hq⟩
    | goto i => exact ⟨e', hs', hq⟩
    | ret => exact ⟨e', hs', hq⟩
    | panic i => exact ⟨e', hs', hq⟩
    | outgrown => exact ⟨e', hs', hq⟩⟩⟩

theorem c_round {σ : Type} {st : σ → List (Nat × Value)} {hp : σ → List Chunk} {I : σ → Prop} {m : Nat} {μ : σ → Nat} (s : σ) (sel : List Nat) (hst : Agree e (st s)) (hnd : sel.Nodup) (hL : sel.map (fun i => L[i]?) = (hp s).map some) (hI : I s) (hm : μ s < m) :
    At cx (RoundEnd cx st hp I m μ) e L := ⟨fun _ hF hS => ⟨s, hst, hF, hS.select sel hnd hL, hI, hm⟩⟩

end rules
end Go.Vc

namespace Go.Vc
open Go

inductive Kd where
  | p
  | g (rs rds wrs : List Nat) (V : List Value → List (Option Chunk) → Value → Prop) (T : List Value → List (Option Chunk) → Value → List Chunk)

def Kd.d (rds : List Nat) (v0 : Value) : Kd := .g [] rds [] (fun _ _ v => v = v0) (fun _ _ _ => [])

abbrev Look := Nat → Option Chunk
def look (L : List Chunk) : Look := fun i => L[i]?

def Kd.rs : Kd → List Nat | .p => [] | .g rs _ _ _ _ => rs
def Kd.rds : Kd → List Nat | .p => [] | .g _ rds _ _ _ => rds
def Kd.wrs : Kd → List Nat | .p => [] | .g _ _ wrs _ _ => wrs
def Kd.V (P : Program) (o : Oper) (s : Kd) (e : Env) (l : Look) (v : Value) : Prop :=
  match s with
  | .p => ∀ w, (execOp (ev e) o).run P w = .ok (.value v) w
  | .g rs rds _ V _ => V (rs.map e) (rds.map l) v
def Kd.T (s : Kd) (e : Env) (l : Look) (v : Value) : List (Nat × Chunk) :=
  match s with
  | .p => []
  | .g rs rds wrs _ T => wrs.zip (T (rs.map e) (rds.map l) v)

def setAll (L : List Chunk) : List (Nat × Chunk) → List Chunk
  | [] => L
  | (i, c) :: r => setAll (L.set i c) r

def putD (e : Env) (d : Option Nat) (v : Value) : Env := match d with | some d => upd e d v | none => e

def RunsTo (P : Program) (ρ : Operand → Value) (o : Oper) (w : World) (R : Value → World → Prop) : Prop :=
  match (execOp ρ o).run P w with
  | .ok (.value v) w' => R v w'
  | .ok .skip w' => R undef w'
  | .ok (.enter f args) w' => Does P f args w' R
  | _ => False

theorem RunsTo.mono {P : Program} {ρ : Operand → Value} {o : Oper} {w : World} {R R' : Value → World → Prop} (h : RunsTo P ρ o w R) (hr : ∀ v w', R v w' → R' v w') : RunsTo P ρ o w R' := by
  unfold RunsTo at *
  generalize (execOp ρ o).run P w = r at *
  cases r with
  | halt x w' => exact h
  | ok nx w' =>
    cases nx <;> first | exact hr _ _ h | exact Does.mono h hr | exact h

structure LV (P : Program) (cx : Cx) (o : Oper) (s : Kd) (e : Env) (L : List Chunk) : Prop where
  out : ∀ (w : World) (L' : List Chunk), Fr cx w → Sat cx w L' → L'.length = L.length → (∀ i, i ∈ s.rds ∨ i ∈ s.wrs → L'[i]? = L[i]?) →
    RunsTo P (ev e) o w (fun v w' => s.V P o e (look L) v ∧ Fr cx w' ∧ Sat cx w' (setAll L' (s.T e (look L) v)))

inductive Sq (P : Program) (cx : Cx) (ops : Array Oper) (F : Env → List Chunk → Prop) : List Oper → List Kd → Env → List Chunk → Prop
  | nil {e : Env} {L : List Chunk} (h : F e L) : Sq P cx ops F [] [] e L
  | pass {o : Oper} {os : List Oper} {s : Kd} {ss : List Kd} {e : Env} {L : List Chunk} (hw : want ops o e = false) (h : Sq P cx ops F os ss (putD e o.dst undef) L) : Sq P cx ops F (o :: os) (s :: ss) e L
  | take {o : Oper} {os : List Oper} {s : Kd} {ss : List Kd} {e : Env} {L : List Chunk} (hw : want ops o e = true) (hi : ∃ v, s.V P o e (look L) v) (hl : LV P cx o s e L)
      (h : ∀ v, s.V P o e (look L) v → Sq P cx ops F os ss (putD e o.dst v) (setAll L (s.T e (look L) v))) : Sq P cx ops F (o :: os) (s :: ss) e L


def binding (o : Oper) (i : Nat) : Bool := o.after.toList.any fun x => Region.binds .any x && Nat.beq x.on i

def reach (l : List Oper) : Nat → Nat → Nat → Bool
  | 0, _, _ => false
  | f + 1, k, i =>
    match l[k]? with
    | none => false
    | some o => binding o i || o.after.toList.any fun x => Region.binds .any x && reach l f x.on i

def meets (a b : List Nat) : Bool := a.any fun x => b.any fun y => Nat.beq x y

def clash (ops : Array Oper) (o1 o2 : Oper) (s1 s2 : Kd) : Bool :=
  meets o1.dst.toList (o2.looksAt ops) || meets o1.dst.toList o2.dst.toList || meets o2.dst.toList (o1.looksAt ops) ||
  meets s1.wrs s2.rds || meets s1.wrs s2.wrs || meets s1.rds s2.wrs

def subs (a b : List Nat) : Bool := a.all fun x => b.any fun y => Nat.beq x y

def checkD (n : Nat) (l : List Oper) (sp : List Kd) : Bool :=
  Nat.beq l.length sp.length && Region.noSelect l.toArray &&
  (List.range l.length).all fun k =>
    match l[k]?, sp[k]? with
    | some o, some s =>
      (o.after.toList.all fun x => !Region.binds .any x || Nat.blt x.on k) && (o.dst.all fun d => Nat.blt d n) && subs s.rs (o.looksAt l.toArray) &&
      (List.range k).all fun i =>
        match l[i]?, sp[i]? with
        | some o1, some s1 => !clash l.toArray o1 o s1 s || reach l 3 k i
        | _, _ => false
    | _, _ => false

theorem meets_of {a b : List Nat} {x : Nat} (ha : x ∈ a) (hb : x ∈ b) : meets a b = true := by
  unfold meets
  rw [List.any_eq_true]
  exact ⟨x, ha, List.any_eq_true.2 ⟨x, hb, by simp⟩⟩


section sound
variable {P : Program} {n : Nat} {cx : Cx} {Q : Post} {l : List Oper} {sp : List Kd} {e0 : Env} {L0 : List Chunk}

def od (l : List Oper) (k : Nat) : Oper := l.getD k default
def sd (sp : List Kd) (k : Nat) : Kd := sp.getD k .p

def EL (P : Program) (l : List Oper) (sp : List Kd) (e0 : Env) (L0 : List Chunk) (S : Nat → Bool) (val : Nat → Value) : Nat → Env × List Chunk
  | 0 => (e0, L0)
  | k + 1 =>
    let x := EL P l sp e0 L0 S val k
    if S k then (putD x.1 (od l k).dst (val k), if want l.toArray (od l k) x.1 = true then setAll x.2 ((sd sp k).T x.1 (look x.2) (val k)) else x.2) else x

structure Ok (n : Nat) (l : List Oper) (sp : List Kd) : Prop where
  len : l.length = sp.length
  nosel : Region.noSelect l.toArray = true
  back : ∀ k x, k < l.length → x ∈ (od l k).after.toList → Region.binds .any x = true → x.on < k
  dst : ∀ k d, k < l.length → (od l k).dst = some d → Nat.blt d n = true
  rs : ∀ k t, k < l.length → t ∈ (sd sp k).rs → t ∈ (od l k).looksAt l.toArray
  ord : ∀ k i, k < l.length → i < k → clash l.toArray (od l i) (od l k) (sd sp i) (sd sp k) = true → reach l 3 k i = true

theorem ok_of (h : checkD n l sp = true) : Ok n l sp := by
  unfold checkD at h
  simp only [Bool.and_eq_true, List.all_eq_true, List.mem_range] at h
  obtain ⟨⟨h1, h2⟩, h3⟩ := h
  have hlen : l.length = sp.length := by simpa using h1
  have key : ∀ k, k < l.length → l[k]? = some (od l k) ∧ sp[k]? = some (sd sp k) := by
    intro k hk
    have hk' : k < sp.length := by omega
    exact ⟨by simp [od, List.getD_eq_getElem?_getD, List.getElem?_eq_getElem hk], by simp [sd, List.getD_eq_getElem?_getD, List.getElem?_eq_getElem hk']⟩
  have h4 : ∀ k, k < l.length → _ := fun k hk => by
    have := h3 k hk
    rw [(key k hk).1, (key k hk).2] at this
    simp only [Bool.and_eq_true, List.all_eq_true, List.mem_range] at this
    exact this
  refine ⟨hlen, h2, ?_, ?_, ?_, ?_⟩
  · intro k x hk hx hb
    have := (h4 k hk).1.1.1
    have := this x hx
    simpa [hb] using this
  · intro k d hk hd
    have := (h4 k hk).1.1.2
    rw [hd] at this
    simpa using this
  · intro k t hk ht
    have := (h4 k hk).1.2
    unfold subs at this
    rw [List.all_eq_true] at this
    obtain ⟨y, hy, hyt⟩ := List.any_eq_true.1 (this t ht)
    have : t = y := by simpa using hyt
    rw [this]; exact hy
  · intro k i hk hi hc
    have := (h4 k hk).2 i hi
    rw [(key i (by omega)).1, (key i (by omega)).2] at this
    simpa [hc] using this

def Closed (l : List Oper) (S : Nat → Prop) (k : Nat) : Prop := ∀ x ∈ (od l k).after.toList, Region.binds .any x = true → S x.on

theorem reach_in (S : Nat → Prop) (hS : ∀ k, k < l.length → S k → Closed l S k) (hb : ∀ k x, k < l.length → x ∈ (od l k).after.toList → Region.binds .any x = true → x.on < k) :
    ∀ f k i, k < l.length → Closed l S k → reach l f k i = true → S i := by
  intro f
  induction f with
  | zero => intro k i _ _ h; simp [reach] at h
  | succ f ih =>
    intro k i hk hc h
    have hlk : l[k]? = some (od l k) := by simp [od, List.getD_eq_getElem?_getD, List.getElem?_eq_getElem hk]
    simp only [reach, hlk, Bool.or_eq_true] at h
    rcases h with h | h
    · unfold binding at h
      rw [List.any_eq_true] at h
      obtain ⟨x, hx, hxb⟩ := h
      simp only [Bool.and_eq_true] at hxb
      have : x.on = i := by simpa using hxb.2
      rw [← this]
      exact hc x hx hxb.1
    · rw [List.any_eq_true] at h
      obtain ⟨x, hx, hxb⟩ := h
      simp only [Bool.and_eq_true] at hxb
      have hlt := hb k x hk hx hxb.1
      exact ih x.on i (by omega) (hS x.on (by omega) (hc x hx hxb.1)) hxb.2

theorem setAll_length (T : List (Nat × Chunk)) : ∀ L : List Chunk, (setAll L T).length = L.length := by
  induction T with
  | nil => intro L; rfl
  | cons p T ih => intro L; obtain ⟨i, c⟩ := p; simp [setAll, ih]

theorem setAll_other (T : List (Nat × Chunk)) : ∀ (L : List Chunk) (i : Nat), (∀ p ∈ T, p.1 ≠ i) → (setAll L T)[i]? = L[i]? := by
  induction T with
  | nil => intro L i _; rfl
  | cons p T ih =>
    intro L i h
    obtain ⟨j, c⟩ := p
    simp only [setAll]
    rw [ih _ i (fun p hp => h p (List.mem_cons_of_mem _ hp)), List.getElem?_set_ne]
    exact h (j, c) (List.mem_cons_self ..)

theorem setAll_same (T : List (Nat × Chunk)) : ∀ (L L' : List Chunk) (i : Nat), L.length = L'.length → L[i]? = L'[i]? → (setAll L T)[i]? = (setAll L' T)[i]? := by
  induction T with
  | nil => intro L L' i _ h; exact h
  | cons p T ih =>
    intro L L' i hl h
    obtain ⟨j, c⟩ := p
    simp only [setAll]
    refine ih _ _ i (by simp [hl]) ?_
    by_cases hji : j = i
    · subst hji
      rw [List.getElem?_set, List.getElem?_set, if_pos rfl, if_pos rfl, hl]
    · rw [List.getElem?_set_ne hji, List.getElem?_set_ne hji, h]

theorem T_in (s : Kd) (e : Env) (lk : Look) (v : Value) : ∀ p ∈ s.T e lk v, p.1 ∈ s.wrs := by
  intro p hp
  cases s with
  | p => simp [Kd.T] at hp
  | g rs rds wrs V T =>
    simp only [Kd.T] at hp
    exact (List.of_mem_zip (a := p.1) (b := p.2) hp).1

theorem T_loc (s : Kd) {e e' : Env} {lk lk' : Look} (h1 : ∀ t ∈ s.rs, e t = e' t) (h2 : ∀ i ∈ s.rds, lk i = lk' i) (v : Value) : s.T e lk v = s.T e' lk' v := by
  cases s with
  | p => rfl
  | g rs rds wrs V T =>
    have h1' : rs.map e = rs.map e' := List.map_congr_left h1
    have h2' : rds.map lk = rds.map lk' := List.map_congr_left h2
    simp only [Kd.T, h1', h2']

theorem ev_loc {e e' : Env} {o : Oper} (hs : ∀ cs b, o.op ≠ .select cs b) {ops : Array Oper} (h : ∀ t ∈ o.looksAt ops, e t = e' t) : execOp (ev e) o = execOp (ev e') o := by
  refine execOp_congr o hs fun x hx => ?_
  cases x with
  | tmp t => exact h t (List.mem_append_left _ (List.mem_filterMap.2 ⟨.tmp t, by simpa using hx, rfl⟩))
  | const v => rfl
  | global g => rfl
  | func f => rfl

theorem V_loc {o : Oper} (s : Kd) (hs : ∀ cs b, o.op ≠ .select cs b) {ops : Array Oper} {e e' : Env} {lk lk' : Look} (h : ∀ t ∈ o.looksAt ops, e t = e' t) (h1 : ∀ t ∈ s.rs, e t = e' t) (h2 : ∀ i ∈ s.rds, lk i = lk' i) (v : Value) :
    s.V P o e lk v = s.V P o e' lk' v := by
  cases s with
  | p => simp only [Kd.V]; rw [ev_loc hs h]
  | g rs rds wrs V T =>
    have h1' : rs.map e = rs.map e' := List.map_congr_left h1
    have h2' : rds.map lk = rds.map lk' := List.map_congr_left h2
    simp only [Kd.V, h1', h2']

theorem V_locL {o : Oper} (s : Kd) (hs : ∀ cs b, o.op ≠ .select cs b) {ops : Array Oper} {e e' : Env} {L L' : List Chunk} (h : ∀ t ∈ o.looksAt ops, e t = e' t) (h1 : ∀ t ∈ s.rs, e t = e' t) (h2 : ∀ i ∈ s.rds, L[i]? = L'[i]?) (v : Value) :
    s.V P o e (look L) v = s.V P o e' (look L') v := V_loc s hs h h1 h2 v

theorem want_loc {o : Oper} {ops : Array Oper} {e e' : Env} (h : ∀ t ∈ o.looksAt ops, e t = e' t) : want ops o e = want ops o e' := by
  unfold want
  cases hg : o.guard with
  | none => rfl
  | some jb =>
    obtain ⟨j, b⟩ := jb
    simp only
    cases hd : (ops[j]?).bind (·.dst) with
    | none => rfl
    | some d =>
      have : e d = e' d := h d (by unfold Oper.looksAt; rw [hg]; exact List.mem_append_right _ (by simp [hd]))
      simp only [this]

theorem putD_same {e e' : Env} {t : Nat} (d : Option Nat) (v : Value) (h : d ≠ some t → e t = e' t) : putD e d v t = putD e' d v t := by
  cases d with
  | none => exact h (by simp)
  | some d =>
    by_cases ht : t = d
    · subst ht; simp [putD, upd_same]
    · simp only [putD]; rw [upd_ne _ _ _ _ ht, upd_ne _ _ _ _ ht]; exact h (by simpa using fun h => ht h.symm)

theorem putD_other {e : Env} {t : Nat} {d : Option Nat} (v : Value) (h : d ≠ some t) : putD e d v t = e t := by
  cases d with
  | none => rfl
  | some d => simp only [putD]; exact upd_ne _ _ _ _ (by simpa using fun h' => h (by rw [h']))

theorem EL_length (S : Nat → Bool) (val : Nat → Value) : ∀ k, (EL P l sp e0 L0 S val k).2.length = L0.length := by
  intro k
  induction k with
  | zero => rfl
  | succ k ih =>
    simp only [EL]
    split
    · split
      · simp [setAll_length, ih]
      · exact ih
    · exact ih

theorem clash_dl {ops : Array Oper} {o1 o2 : Oper} {s1 s2 : Kd} {t : Nat} (h1 : o1.dst = some t) (h2 : t ∈ o2.looksAt ops) : clash ops o1 o2 s1 s2 = true := by
  unfold clash; rw [meets_of (a := o1.dst.toList) (x := t) (by simp [h1]) h2]; rfl
theorem clash_dd {ops : Array Oper} {o1 o2 : Oper} {s1 s2 : Kd} {t : Nat} (h1 : o1.dst = some t) (h2 : o2.dst = some t) : clash ops o1 o2 s1 s2 = true := by
  unfold clash; rw [meets_of (a := o1.dst.toList) (b := o2.dst.toList) (x := t) (by simp [h1]) (by simp [h2])]; simp
theorem clash_ld {ops : Array Oper} {o1 o2 : Oper} {s1 s2 : Kd} {t : Nat} (h1 : t ∈ o1.looksAt ops) (h2 : o2.dst = some t) : clash ops o1 o2 s1 s2 = true := by
  unfold clash; rw [meets_of (a := o2.dst.toList) (x := t) (by simp [h2]) h1]; simp
theorem clash_wr {ops : Array Oper} {o1 o2 : Oper} {s1 s2 : Kd} {i : Nat} (h1 : i ∈ s1.wrs) (h2 : i ∈ s2.rds ∨ i ∈ s2.wrs) : clash ops o1 o2 s1 s2 = true := by
  unfold clash
  rcases h2 with h2 | h2
  · rw [meets_of h1 h2]; simp
  · rw [meets_of (a := s1.wrs) (b := s2.wrs) h1 h2]; simp
theorem clash_rw {ops : Array Oper} {o1 o2 : Oper} {s1 s2 : Kd} {i : Nat} (h1 : i ∈ s1.rds ∨ i ∈ s1.wrs) (h2 : i ∈ s2.wrs) : clash ops o1 o2 s1 s2 = true := by
  unfold clash
  rcases h1 with h1 | h1
  · rw [meets_of (a := s1.rds) (b := s2.wrs) h1 h2]; simp
  · rw [meets_of (a := s1.wrs) (b := s2.wrs) h1 h2]; simp

theorem EL_agree (ok : Ok n l sp) {S S' : Nat → Bool} {val val' : Nat → Value} :
    ∀ k, k < l.length → (∀ i, i < k → reach l 3 k i = true → S i ∧ S' i ∧ val i = val' i) →
      (∀ i, i < k → S i → S' i → val i = val' i ∧
        ((∀ t ∈ (od l i).looksAt l.toArray, (EL P l sp e0 L0 S val i).1 t = (EL P l sp e0 L0 S' val' i).1 t) ∧
         (∀ r, r ∈ (sd sp i).rds ∨ r ∈ (sd sp i).wrs → (EL P l sp e0 L0 S val i).2[r]? = (EL P l sp e0 L0 S' val' i).2[r]?))) →
      ∀ j, j ≤ k → (∀ t ∈ (od l k).looksAt l.toArray, (EL P l sp e0 L0 S val j).1 t = (EL P l sp e0 L0 S' val' j).1 t) ∧
        (∀ r, r ∈ (sd sp k).rds ∨ r ∈ (sd sp k).wrs → (EL P l sp e0 L0 S val j).2[r]? = (EL P l sp e0 L0 S' val' j).2[r]?) := by
  intro k hk hcl hin j
  induction j with
  | zero => intro _; exact ⟨fun _ _ => rfl, fun _ _ => rfl⟩
  | succ j ih =>
    intro hj
    obtain ⟨ih1, ih2⟩ := ih (by omega)
    by_cases hb : S j ∧ S' j
    · obtain ⟨hv, hl1, hl2⟩ := hin j (by omega) hb.1 hb.2
      have hw : want l.toArray (od l j) (EL P l sp e0 L0 S val j).1 = want l.toArray (od l j) (EL P l sp e0 L0 S' val' j).1 := want_loc hl1
      have hT : (sd sp j).T (EL P l sp e0 L0 S val j).1 (look (EL P l sp e0 L0 S val j).2) (val j) = (sd sp j).T (EL P l sp e0 L0 S' val' j).1 (look (EL P l sp e0 L0 S' val' j).2) (val' j) := by
        rw [hv]
        exact T_loc _ (fun t ht => hl1 t (ok.rs j t (by omega) ht)) (fun i hi => hl2 i (.inl hi)) _
      simp only [EL, if_pos hb.1, if_pos hb.2]
      refine ⟨fun t ht => ?_, fun r hr => ?_⟩
      · rw [hv]; exact putD_same _ _ (fun _ => ih1 t ht)
      · rw [hw, hT]
        split
        · exact setAll_same _ _ _ r (by rw [EL_length, EL_length]) (ih2 r hr)
        · exact ih2 r hr
    · have hnr : ¬ reach l 3 k j = true := fun hr => hb ⟨(hcl j (by omega) hr).1, (hcl j (by omega) hr).2.1⟩
      have hnc : ¬ clash l.toArray (od l j) (od l k) (sd sp j) (sd sp k) = true := fun hc => hnr (ok.ord k j hk (by omega) hc)
      have one : ∀ (X : Nat → Bool) (va : Nat → Value), (∀ t ∈ (od l k).looksAt l.toArray, (EL P l sp e0 L0 X va (j + 1)).1 t = (EL P l sp e0 L0 X va j).1 t) ∧
          (∀ r, r ∈ (sd sp k).rds ∨ r ∈ (sd sp k).wrs → (EL P l sp e0 L0 X va (j + 1)).2[r]? = (EL P l sp e0 L0 X va j).2[r]?) := by
        intro X va
        simp only [EL]
        split
        · refine ⟨fun t ht => ?_, fun r hr => ?_⟩
          · exact putD_other _ (fun hd => hnc (clash_dl hd ht))
          · split
            · exact setAll_other _ _ r (fun p hp hpr => hnc (clash_wr (by rw [← hpr]; exact T_in _ _ _ _ p hp) hr))
            · rfl
        · exact ⟨fun _ _ => rfl, fun _ _ => rfl⟩
      refine ⟨fun t ht => ?_, fun r hr => ?_⟩
      · rw [(one S val).1 t ht, (one S' val').1 t ht]; exact ih1 t ht
      · rw [(one S val).2 r hr, (one S' val').2 r hr]; exact ih2 r hr

def Sc (l : List Oper) (S : Nat → Bool) : Prop := ∀ k, k < l.length → S k = true → Closed l (fun i => S i = true) k

theorem closed_reach (ok : Ok n l sp) {S : Nat → Bool} (hS : Sc l S) {k i : Nat} (hk : k < l.length) (hc : Closed l (fun i => S i = true) k) (h : reach l 3 k i = true) : S i = true :=
  reach_in (fun i => S i = true) (fun k hk h => hS k hk h) ok.back 3 k i hk hc h

theorem agree_all (ok : Ok n l sp) {S S' : Nat → Bool} {val val' : Nat → Value} (hS : Sc l S) (hS' : ∀ i, S i = true → S' i = true) (hv : ∀ i, S i = true → val i = val' i) :
    ∀ k, k < l.length → Closed l (fun i => S i = true) k → (∀ t ∈ (od l k).looksAt l.toArray, (EL P l sp e0 L0 S val k).1 t = (EL P l sp e0 L0 S' val' k).1 t) ∧
        (∀ r, r ∈ (sd sp k).rds ∨ r ∈ (sd sp k).wrs → (EL P l sp e0 L0 S val k).2[r]? = (EL P l sp e0 L0 S' val' k).2[r]?) := by
  intro k
  induction k using Nat.strongRecOn with
  | _ k ih =>
    intro hk hc
    exact EL_agree ok k hk (fun i hi hr => ⟨closed_reach ok hS hk hc hr, hS' i (closed_reach ok hS hk hc hr), hv i (closed_reach ok hS hk hc hr)⟩)
      (fun i hi hs _ => ⟨hv i hs, ih i hi (by omega) (hS i (by omega) hs)⟩) k (Nat.le_refl _)

theorem EL_congr (S : Nat → Bool) {val val' : Nat → Value} : ∀ k, (∀ i, i < k → val i = val' i) → EL P l sp e0 L0 S val k = EL P l sp e0 L0 S val' k := by
  intro k
  induction k with
  | zero => intro _; rfl
  | succ k ih =>
    intro h
    simp only [EL]
    rw [ih (fun i hi => h i (by omega)), h k (by omega)]

def Cons (P : Program) (l : List Oper) (sp : List Kd) (e0 : Env) (L0 : List Chunk) (S : Nat → Bool) (val : Nat → Value) (k : Nat) : Prop :=
  ∀ j, j < k → S j = true → if want l.toArray (od l j) (EL P l sp e0 L0 S val j).1 = true then (sd sp j).V P (od l j) (EL P l sp e0 L0 S val j).1 (look (EL P l sp e0 L0 S val j).2) (val j) else val j = undef

def full : Nat → Bool := fun _ => true

theorem drop_od {k : Nat} (hk : k < l.length) : l.drop k = od l k :: l.drop (k + 1) := by
  rw [List.drop_eq_getElem_cons hk]; simp [od, List.getD_eq_getElem?_getD, List.getElem?_eq_getElem hk]
theorem drop_sd {k : Nat} (hk : k < sp.length) : sp.drop k = sd sp k :: sp.drop (k + 1) := by
  rw [List.drop_eq_getElem_cons hk]; simp [sd, List.getD_eq_getElem?_getD, List.getElem?_eq_getElem hk]

theorem sq_at (ok : Ok n l sp) {F : Env → List Chunk → Prop} (h : Sq P cx l.toArray F l sp e0 L0) : ∀ k, k ≤ l.length → ∀ val, Cons P l sp e0 L0 full val k →
    Sq P cx l.toArray F (l.drop k) (sp.drop k) (EL P l sp e0 L0 full val k).1 (EL P l sp e0 L0 full val k).2 := by
  intro k
  induction k with
  | zero => intro _ _ _; simpa [EL] using h
  | succ k ih =>
    intro hk val hc
    have h0 := ih (by omega) val (fun j hj => hc j (by omega))
    rw [drop_od (by omega), drop_sd (by have := ok.len; omega)] at h0
    have hck := hc k (by omega) rfl
    simp only [EL, full, if_true]
    cases h0 with
    | pass hw h1 =>
      rw [if_neg (by rw [hw]; simp)] at hck
      rw [if_neg (by rw [hw]; simp), hck]
      exact h1
    | take hw hi hl h1 =>
      rw [if_pos hw] at hck
      rw [if_pos hw]
      exact h1 _ hck

theorem fill (ok : Ok n l sp) {F : Env → List Chunk → Prop} (h : Sq P cx l.toArray F l sp e0 L0) {S : Nat → Bool} {val : Nat → Value} (hS : Sc l S) (hc : Cons P l sp e0 L0 S val l.length) :
    ∀ k, k ≤ l.length → ∃ val', (∀ i, S i = true → val' i = val i) ∧ Cons P l sp e0 L0 full val' k := by
  intro k
  induction k with
  | zero => intro _; exact ⟨val, fun _ _ => rfl, fun j hj => by omega⟩
  | succ k ih =>
    intro hk
    obtain ⟨val', hv, hcf⟩ := ih (by omega)
    by_cases hSk : S k = true
    · refine ⟨val', hv, fun j hj hf => ?_⟩
      by_cases hjk : j = k
      · subst hjk
        have hj' := hc j (by omega) hSk
        obtain ⟨a1, a2⟩ := agree_all (P := P) (e0 := e0) (L0 := L0) ok (S' := full) (val' := val') hS (fun _ _ => rfl) (fun i hi => (hv i hi).symm) j (by omega) (hS j (by omega) hSk)
        rw [← want_loc (ops := l.toArray) a1, hv j hSk]
        split
        · rename_i hw
          rw [if_pos hw] at hj'
          rw [← V_loc (lk := look (EL P l sp e0 L0 S val j).2) (lk' := look (EL P l sp e0 L0 full val' j).2) (sd sp j) (Region.noSelect_spec ok.nosel j _ · · (by simp [od, List.getD_eq_getElem?_getD, List.getElem?_eq_getElem (show j < l.length by omega)])) (ops := l.toArray) a1 (fun t ht => a1 t (ok.rs j t (by omega) ht)) (fun i hi => a2 i (.inl hi))]
          exact hj'
        · rename_i hw
          rw [if_neg hw] at hj'
          exact hj'
      · exact hcf j (by omega) hf
    · have h0 := sq_at ok h k (by omega) val' hcf
      rw [drop_od (by omega), drop_sd (by have := ok.len; omega)] at h0
      have fin : ∀ v : Value, (if want l.toArray (od l k) (EL P l sp e0 L0 full val' k).1 = true then (sd sp k).V P (od l k) (EL P l sp e0 L0 full val' k).1 (look (EL P l sp e0 L0 full val' k).2) v else v = undef) →
          ∃ val'', (∀ i, S i = true → val'' i = val i) ∧ Cons P l sp e0 L0 full val'' (k + 1) := by
        intro v hvv
        refine ⟨fun i => if i = k then v else val' i, fun i hi => ?_, fun j hj hf => ?_⟩
        · have : i ≠ k := fun e => hSk (by rw [← e]; exact hi)
          simp [this, hv i hi]
        · have he : EL P l sp e0 L0 full (fun i => if i = k then v else val' i) j = EL P l sp e0 L0 full val' j := EL_congr full j (fun i hi => by
            have : i ≠ k := by omega
            simp [this])
          rw [he]
          by_cases hjk : j = k
          · subst hjk
            simpa using hvv
          · simp only [hjk, if_false]
            exact hcf j (by omega) hf
      cases h0 with
      | pass hw h1 => exact fin undef (by rw [if_neg (by rw [hw]; simp)])
      | take hw hi hl h1 =>
        obtain ⟨v, hv'⟩ := hi
        exact fin v (by rw [if_pos hw]; exact hv')

theorem tail_agree (ok : Ok n l sp) {S : Nat → Bool} {val : Nat → Value} (hS : Sc l S) {k : Nat} (hSk : S k = false) :
    ∀ j, k ≤ j → j ≤ l.length → (∀ t ∈ (od l k).looksAt l.toArray, (EL P l sp e0 L0 S val j).1 t = (EL P l sp e0 L0 S val k).1 t) ∧
        (∀ r, r ∈ (sd sp k).rds ∨ r ∈ (sd sp k).wrs → (EL P l sp e0 L0 S val j).2[r]? = (EL P l sp e0 L0 S val k).2[r]?) := by
  intro j hj
  obtain ⟨d, rfl⟩ := Nat.exists_eq_add_of_le hj
  clear hj
  induction d with
  | zero => intro _; exact ⟨fun _ _ => rfl, fun _ _ => rfl⟩
  | succ d ih =>
    intro hjl
    obtain ⟨a1, a2⟩ := ih (by omega)
    rw [show k + (d + 1) = (k + d) + 1 from rfl] at *
    generalize hjd : k + d = j at *
    have hj : k ≤ j := by omega
    simp only [EL]
    by_cases hSj : S j = true
    · have hjk : k < j := by
        rcases Nat.lt_or_ge k j with h | h
        · exact h
        · have : j = k := by omega
          rw [this, hSk] at hSj; cases hSj
      have hnc : ¬ clash l.toArray (od l k) (od l j) (sd sp k) (sd sp j) = true := fun hc => by
        have := closed_reach ok hS (by omega) (hS j (by omega) hSj) (ok.ord j k (by omega) hjk hc)
        rw [hSk] at this; cases this
      rw [if_pos hSj]
      refine ⟨fun t ht => ?_, fun r hr => ?_⟩
      · rw [← a1 t ht]
        exact putD_other _ (fun hd => hnc (clash_ld ht hd))
      · rw [← a2 r hr]
        show (if _ then _ else _)[r]? = _
        split
        · exact setAll_other _ _ r (fun p hp hpr => hnc (clash_rw hr (by rw [← hpr]; exact T_in _ _ _ _ p hp)))
        · rfl
    · rw [if_neg hSj]
      exact ⟨a1, a2⟩

theorem putD_comm {e : Env} {d1 d2 : Option Nat} {v1 v2 : Value} (h : ∀ t, d1 = some t → d2 ≠ some t) : putD (putD e d1 v1) d2 v2 = putD (putD e d2 v2) d1 v1 := by
  funext t
  by_cases h1 : d1 = some t
  · have h2 := h t h1
    subst h1
    rw [putD_other _ h2]
    exact putD_same _ _ (fun hh => absurd rfl hh)
  · rw [putD_other (d := d1) _ h1]
    exact putD_same _ _ (fun _ => putD_other _ h1)

theorem setAll_comm (A B : List (Nat × Chunk)) (L : List Chunk) (h : ∀ p ∈ A, ∀ q ∈ B, p.1 ≠ q.1) : setAll (setAll L A) B = setAll (setAll L B) A := by
  apply List.ext_getElem?
  intro i
  by_cases hA : ∃ p ∈ A, p.1 = i
  · obtain ⟨p, hp, hpi⟩ := hA
    rw [setAll_other B _ i (fun q hq hqi => h p hp q hq (by omega))]
    exact setAll_same A _ _ i (by simp [setAll_length]) (setAll_other B _ i (fun q hq hqi => h p hp q hq (by omega))).symm
  · have hA' : ∀ p ∈ A, p.1 ≠ i := fun p hp hpi => hA ⟨p, hp, hpi⟩
    rw [setAll_other A _ i hA']
    exact setAll_same B _ _ i (by simp [setAll_length]) (setAll_other A _ i hA')

def with1 (S : Nat → Bool) (k : Nat) : Nat → Bool := fun i => if i = k then true else S i
def val1 (val : Nat → Value) (k : Nat) (v : Value) : Nat → Value := fun i => if i = k then v else val i

theorem EL_below (S : Nat → Bool) (val : Nat → Value) (k : Nat) (v : Value) : ∀ j, j ≤ k → EL P l sp e0 L0 (with1 S k) (val1 val k v) j = EL P l sp e0 L0 S val j := by
  intro j
  induction j with
  | zero => intro _; rfl
  | succ j ih =>
    intro hj
    have hjk : j ≠ k := by omega
    simp only [EL, ih (by omega), with1, val1, hjk, if_false]

theorem EL_step (ok : Ok n l sp) {S : Nat → Bool} {val : Nat → Value} (hS : Sc l S) {k : Nat} (hSk : S k = false) (v : Value) :
    ∀ j, k + 1 ≤ j → j ≤ l.length → EL P l sp e0 L0 (with1 S k) (val1 val k v) j =
      (putD (EL P l sp e0 L0 S val j).1 (od l k).dst v, if want l.toArray (od l k) (EL P l sp e0 L0 S val k).1 = true then setAll (EL P l sp e0 L0 S val j).2 ((sd sp k).T (EL P l sp e0 L0 S val k).1 (look (EL P l sp e0 L0 S val k).2) v) else (EL P l sp e0 L0 S val j).2) := by
  intro j hj
  obtain ⟨d, rfl⟩ := Nat.exists_eq_add_of_le hj
  clear hj
  induction d with
  | zero =>
    intro _
    have h1 : EL P l sp e0 L0 (with1 S k) (val1 val k v) (k + 1) = _ := rfl
    rw [h1]
    simp only [EL, EL_below S val k v k (Nat.le_refl _), with1, val1, if_true, hSk]
    rfl
  | succ d ih =>
    intro hjl
    have ih := ih (by omega)
    rw [show k + 1 + (d + 1) = (k + 1 + d) + 1 from rfl] at *
    generalize hjd : k + 1 + d = j at *
    have hjk : j ≠ k := by omega
    by_cases hSj : S j = true
    · have hnc : ¬ clash l.toArray (od l k) (od l j) (sd sp k) (sd sp j) = true := fun hc => by
        have := closed_reach ok hS (by omega) (hS j (by omega) hSj) (ok.ord j k (by omega) (by omega) hc)
        rw [hSk] at this; cases this
      have e1 : ∀ t ∈ (od l j).looksAt l.toArray, putD (EL P l sp e0 L0 S val j).1 (od l k).dst v t = (EL P l sp e0 L0 S val j).1 t :=
        fun t ht => putD_other _ (fun hd => hnc (clash_dl hd ht))
      have e2 : ∀ r, r ∈ (sd sp j).rds ∨ r ∈ (sd sp j).wrs → (if want l.toArray (od l k) (EL P l sp e0 L0 S val k).1 = true then setAll (EL P l sp e0 L0 S val j).2 ((sd sp k).T (EL P l sp e0 L0 S val k).1 (look (EL P l sp e0 L0 S val k).2) v) else (EL P l sp e0 L0 S val j).2)[r]? = (EL P l sp e0 L0 S val j).2[r]? := by
        intro r hr
        split
        · exact setAll_other _ _ r (fun p hp hpr => hnc (clash_wr (by rw [← hpr]; exact T_in _ _ _ _ p hp) hr))
        · rfl
      have hT := T_loc (sd sp j) (e := putD (EL P l sp e0 L0 S val j).1 (od l k).dst v) (e' := (EL P l sp e0 L0 S val j).1)
        (lk := look (if want l.toArray (od l k) (EL P l sp e0 L0 S val k).1 = true then setAll (EL P l sp e0 L0 S val j).2 ((sd sp k).T (EL P l sp e0 L0 S val k).1 (look (EL P l sp e0 L0 S val k).2) v) else (EL P l sp e0 L0 S val j).2)) (lk' := look (EL P l sp e0 L0 S val j).2)
        (fun t ht => e1 t (ok.rs j t (by omega) ht)) (fun i hi => e2 i (.inl hi)) (val j)
      have hw := want_loc (ops := l.toArray) e1
      have h1 : EL P l sp e0 L0 (with1 S k) (val1 val k v) (j + 1) = (putD (EL P l sp e0 L0 (with1 S k) (val1 val k v) j).1 (od l j).dst (val j), if want l.toArray (od l j) (EL P l sp e0 L0 (with1 S k) (val1 val k v) j).1 = true then setAll (EL P l sp e0 L0 (with1 S k) (val1 val k v) j).2 ((sd sp j).T (EL P l sp e0 L0 (with1 S k) (val1 val k v) j).1 (look (EL P l sp e0 L0 (with1 S k) (val1 val k v) j).2) (val j)) else (EL P l sp e0 L0 (with1 S k) (val1 val k v) j).2) := by
        simp [EL, with1, val1, hjk, hSj]
      have h2 : EL P l sp e0 L0 S val (j + 1) = (putD (EL P l sp e0 L0 S val j).1 (od l j).dst (val j), if want l.toArray (od l j) (EL P l sp e0 L0 S val j).1 = true then setAll (EL P l sp e0 L0 S val j).2 ((sd sp j).T (EL P l sp e0 L0 S val j).1 (look (EL P l sp e0 L0 S val j).2) (val j)) else (EL P l sp e0 L0 S val j).2) := by
        simp [EL, hSj]
      rw [h1, h2, ih]
      simp only
      rw [hw, hT]
      refine Prod.ext ?_ ?_
      · exact putD_comm (fun t ht1 ht2 => hnc (clash_dd ht1 ht2))
      · show (if _ then _ else _) = (if _ then _ else _)
        by_cases hwj : want l.toArray (od l j) (EL P l sp e0 L0 S val j).1 = true <;> by_cases hwk : want l.toArray (od l k) (EL P l sp e0 L0 S val k).1 = true
        · simp only [hwj, hwk, if_true]
          exact setAll_comm _ _ _ (fun p hp q hq hpq => hnc (clash_wr (T_in _ _ _ _ p hp) (.inr (by rw [hpq]; exact T_in _ _ _ _ q hq))))
        · simp only [hwj, hwk, if_true]; rfl
        · simp only [hwj, hwk, if_true]; rfl
        · simp only [hwj, hwk]; rfl
    · have h1 : EL P l sp e0 L0 (with1 S k) (val1 val k v) (j + 1) = EL P l sp e0 L0 (with1 S k) (val1 val k v) j := by
        simp [EL, with1, hjk, hSj]
      have h2 : EL P l sp e0 L0 S val (j + 1) = EL P l sp e0 L0 S val j := by simp [EL, hSj]
      rw [h1, h2, ih]

def listedS (listed : Array Bool) : Nat → Bool := fun k => listed.getD k false

theorem cons_step (ok : Ok n l sp) {S : Nat → Bool} {val : Nat → Value} (hS : Sc l S) {k : Nat} (hk : k < l.length) (hSk : S k = false) (hc : Cons P l sp e0 L0 S val l.length) {v : Value}
    (hv : if want l.toArray (od l k) (EL P l sp e0 L0 S val k).1 = true then (sd sp k).V P (od l k) (EL P l sp e0 L0 S val k).1 (look (EL P l sp e0 L0 S val k).2) v else v = undef) :
    Cons P l sp e0 L0 (with1 S k) (val1 val k v) l.length := by
  intro j hj hSj
  by_cases hjk : j = k
  · subst hjk
    rw [EL_below S val j v j (Nat.le_refl _)]
    simpa [val1] using hv
  · have hSj' : S j = true := by simpa [with1, hjk] using hSj
    have hcj := hc j hj hSj'
    have hval : val1 val k v j = val j := by simp [val1, hjk]
    rw [hval]
    by_cases hlt : j < k
    · rw [EL_below S val k v j (by omega)]
      exact hcj
    · have hkj : k < j := by omega
      have hnc : ¬ clash l.toArray (od l k) (od l j) (sd sp k) (sd sp j) = true := fun hh => by
        have := closed_reach ok hS hj (hS j hj hSj') (ok.ord j k hj hkj hh)
        rw [hSk] at this; cases this
      rw [EL_step ok hS hSk v j (by omega) (by omega)]
      have e1 : ∀ t ∈ (od l j).looksAt l.toArray, putD (EL P l sp e0 L0 S val j).1 (od l k).dst v t = (EL P l sp e0 L0 S val j).1 t :=
        fun t ht => putD_other _ (fun hd => hnc (clash_dl hd ht))
      have e2 : ∀ r, r ∈ (sd sp j).rds ∨ r ∈ (sd sp j).wrs → (if want l.toArray (od l k) (EL P l sp e0 L0 S val k).1 = true then setAll (EL P l sp e0 L0 S val j).2 ((sd sp k).T (EL P l sp e0 L0 S val k).1 (look (EL P l sp e0 L0 S val k).2) v) else (EL P l sp e0 L0 S val j).2)[r]? = (EL P l sp e0 L0 S val j).2[r]? := by
        intro r hr
        split
        · exact setAll_other _ _ r (fun p hp hpr => hnc (clash_wr (by rw [← hpr]; exact T_in _ _ _ _ p hp) hr))
        · rfl
      simp only
      rw [want_loc (ops := l.toArray) e1]
      split
      · rename_i hw
        rw [if_pos hw] at hcj
        rw [V_locL (L' := (EL P l sp e0 L0 S val j).2) (sd sp j) (Region.noSelect_spec ok.nosel j _ · · (by simp [od, List.getD_eq_getElem?_getD, List.getElem?_eq_getElem hj])) (ops := l.toArray) e1 (fun t ht => e1 t (ok.rs j t hj ht)) (fun i hi => e2 i (.inl hi))]
        exact hcj
      · rename_i hw
        rw [if_neg hw] at hcj
        exact hcj

theorem ready_mem {md : Region.Mode} {ops : Array Oper} {listed : Array Bool} {k : Nat} (h : k ∈ Region.ready md ops listed) :
    k < ops.size ∧ listed.getD k true = false ∧ ∃ o, ops[k]? = some o ∧ ∀ x ∈ o.after.toList, Region.binds md x = true → listed.getD x.on false = true := by
  unfold Region.ready at h
  rw [List.mem_filter] at h
  obtain ⟨h1, h2⟩ := h
  rw [List.mem_range] at h1
  simp only [Bool.and_eq_true, Bool.not_eq_true'] at h2
  obtain ⟨h2, h3⟩ := h2
  refine ⟨h1, h2, ops[k], Array.getElem?_eq_getElem h1, fun x hx hb => ?_⟩
  rw [Array.getElem?_eq_getElem h1] at h3
  simp only [Option.map_some, Option.getD_some] at h3
  have := Array.all_eq_true_iff_forall_mem.1 h3 x (by simpa using hx)
  simpa [hb] using this

theorem any_of (ok : Ok n l sp) (h : Sq P cx l.toArray (fun e L => At cx (Q .normal) e L) l sp e0 L0) : ∀ (fuel : Nat) (listed : Array Bool) (a : Act) (w : World) (val : Nat → Value), listed.size = l.length →
    Sc l (listedS listed) → Cons P l sp e0 L0 (listedS listed) val l.length →
    ((List.range l.length).filter fun k => !listedS listed k).length ≤ fuel →
    Sim n a (EL P l sp e0 L0 (listedS listed) val l.length).1 → Fr cx w → Sat cx w (EL P l sp e0 L0 (listedS listed) val l.length).2 →
    wpAny P .any l.toArray (lift n Q) fuel listed a w := by
  have final : ∀ (listed : Array Bool) (a : Act) (w : World) (val : Nat → Value), (∀ k, k < l.length → listedS listed k = true) → Cons P l sp e0 L0 (listedS listed) val l.length →
      Sim n a (EL P l sp e0 L0 (listedS listed) val l.length).1 → Fr cx w → Sat cx w (EL P l sp e0 L0 (listedS listed) val l.length).2 → lift n Q .normal a w := by
    intro listed a w val hall hc hs hF hS
    have he : ∀ k, k ≤ l.length → EL P l sp e0 L0 (listedS listed) val k = EL P l sp e0 L0 full val k := by
      intro k
      induction k with
      | zero => intro _; rfl
      | succ k ih => intro hk; simp only [EL, ih (by omega), hall k (by omega), full]
    have hcf : Cons P l sp e0 L0 full val l.length := fun j hj hf => by
      have := hc j hj (hall j hj)
      rwa [he j (by omega)] at this
    have h0 := sq_at ok h l.length (Nat.le_refl _) val hcf
    rw [List.drop_length, ok.len, List.drop_length, ← ok.len] at h0
    cases h0 with
    | nil hh =>
      rw [← he _ (Nat.le_refl _)] at hh
      exact ⟨_, hs, hh.out w hF hS⟩
  have ready_all : ∀ (listed : Array Bool), listed.size = l.length → Region.ready .any l.toArray listed = [] → ∀ k, k < l.length → listedS listed k = true := by
    intro listed hsz hr k
    induction k using Nat.strongRecOn with
    | _ k ih =>
      intro hk
      rcases Bool.eq_false_or_eq_true (listedS listed k) with hh | hh
      · exact hh
      · exfalso
        have : k ∈ Region.ready .any l.toArray listed := by
          unfold Region.ready
          rw [List.mem_filter]
          refine ⟨by simpa using hk, ?_⟩
          have hg : listed.getD k true = false := by
            have hh' : listed.getD k false = false := hh
            rw [Array.getD_eq_getD_getElem?, Array.getElem?_eq_getElem (by omega)] at hh' ⊢
            simpa using hh'
          have hok : l.toArray[k]? = some (od l k) := by simp [od, List.getD_eq_getElem?_getD, List.getElem?_eq_getElem hk]
          simp only [hg, Bool.not_false, Bool.true_and, hok, Option.map_some, Option.getD_some]
          rw [Array.all_eq_true_iff_forall_mem]
          intro x hx
          by_cases hb : Region.binds .any x = true
          · have hlt := ok.back k x hk (by simpa using hx) hb
            have := ih x.on hlt (by omega)
            simp only [hb, Bool.not_true, Bool.false_or]
            exact this
          · simp only [Bool.not_eq_true] at hb
            simp [hb]
        rw [hr] at this
        cases this
  intro fuel
  induction fuel with
  | zero =>
    intro listed a w val hsz hSc hc hcount hs hF hS
    have hall : ∀ k, k < l.length → listedS listed k = true := by
      intro k hk
      have h0 : (List.range l.length).filter (fun k => !listedS listed k) = [] := List.eq_nil_of_length_eq_zero (by omega)
      rw [List.filter_eq_nil_iff] at h0
      simpa using h0 k (by simpa using hk)
    refine ⟨?_, final listed a w val hall hc hs hF hS⟩
    cases hr : Region.ready .any l.toArray listed with
    | nil => rfl
    | cons x xs =>
      exfalso
      obtain ⟨h1, h2, _⟩ := ready_mem (md := .any) (ops := l.toArray) (listed := listed) (k := x) (by rw [hr]; simp)
      have h1' : x < l.length := by simpa using h1
      have := hall x h1'
      unfold listedS at this
      rw [Array.getD_eq_getD_getElem?, Array.getElem?_eq_getElem (by omega)] at this h2
      simp at this h2
      rw [this] at h2
      cases h2
  | succ fuel ih =>
    intro listed a w val hsz hSc hc hcount hs hF hS
    refine ⟨fun hr => final listed a w val (ready_all listed hsz hr) hc hs hF hS, fun k hk => ?_⟩
    obtain ⟨h1, h2, o, ho, hafter⟩ := ready_mem hk
    have hkl : k < l.length := by simpa using h1
    have hoe : o = od l k := by
      have : l[k]? = some o := by simpa using ho
      simp [od, List.getD_eq_getElem?_getD, this]
    subst hoe
    have hSk : listedS listed k = false := by
      unfold listedS
      rw [Array.getD_eq_getD_getElem?, Array.getElem?_eq_getElem (by omega)] at h2 ⊢
      simpa using h2
    have hclk : Closed l (fun i => listedS listed i = true) k := fun x hx hb => hafter x hx hb
    obtain ⟨val', hv, hcf⟩ := fill ok h hSc hc k (by omega)
    have h0 := sq_at ok h k (by omega) val' hcf
    rw [drop_od hkl, drop_sd (by have := ok.len; omega)] at h0
    obtain ⟨a1, a2⟩ := agree_all (P := P) (e0 := e0) (L0 := L0) ok (S' := full) (val' := val') hSc (fun _ _ => rfl) (fun i hi => (hv i hi).symm) k hkl hclk
    obtain ⟨b1, b2⟩ := tail_agree (P := P) (e0 := e0) (L0 := L0) (val := val) ok hSc hSk l.length (by omega) (Nat.le_refl _)
    have hsel : ∀ cs b, (od l k).op ≠ .select cs b := (Region.noSelect_spec ok.nosel k _ · · (by simpa using ho))
    have hSn : listedS (listed.setIfInBounds k true) = with1 (listedS listed) k := by
      funext i
      unfold listedS with1
      simp only [Array.getD_eq_getD_getElem?, Array.getElem?_setIfInBounds]
      by_cases hik : i = k
      · subst hik; simp [show i < listed.size by omega]
      · have : ¬ k = i := fun e => hik e.symm
        simp [hik, this]
    have hScn : Sc l (with1 (listedS listed) k) := by
      intro j hj hSj x hx hb
      by_cases hjk : j = k
      · subst hjk
        have := hclk x hx hb
        simp only [with1]
        split
        · rfl
        · exact this
      · have hSj' : listedS listed j = true := by simpa [with1, hjk] using hSj
        have := hSc j hj hSj' x hx hb
        simp only [with1]
        split
        · rfl
        · exact this
    have hcnt : ((List.range l.length).filter fun i => !with1 (listedS listed) k i).length ≤ fuel := by
      have hsub : ((List.range l.length).filter fun i => !with1 (listedS listed) k i).length < ((List.range l.length).filter fun i => !listedS listed i).length := by
        have e1 : (List.range l.length).filter (fun i => !with1 (listedS listed) k i) = ((List.range l.length).filter fun i => !listedS listed i).filter fun i => decide (i ≠ k) := by
          rw [List.filter_filter]
          apply List.filter_congr
          intro i _
          unfold with1
          by_cases hik : i = k <;> simp [hik]
        rw [e1]
        refine List.length_filter_lt_length_iff_exists.2 ⟨k, ?_, by simp⟩
        rw [List.mem_filter]
        exact ⟨by simpa using hkl, by simp [hSk]⟩
      omega
    have hwa : want l.toArray (od l k) (EL P l sp e0 L0 (listedS listed) val l.length).1 = want l.toArray (od l k) (EL P l sp e0 L0 full val' k).1 := (want_loc b1).trans (want_loc a1)
    have hwk : want l.toArray (od l k) (EL P l sp e0 L0 (listedS listed) val k).1 = want l.toArray (od l k) (EL P l sp e0 L0 full val' k).1 := want_loc a1
    -- what stands after the operation
    have next : ∀ (v : Value) (a' : Act) (w' : World), (if want l.toArray (od l k) (EL P l sp e0 L0 full val' k).1 = true then (sd sp k).V P (od l k) (EL P l sp e0 L0 full val' k).1 (look (EL P l sp e0 L0 full val' k).2) v else v = undef) →
        Sim n a' (putD (EL P l sp e0 L0 (listedS listed) val l.length).1 (od l k).dst v) → Fr cx w' →
        Sat cx w' (if want l.toArray (od l k) (EL P l sp e0 L0 full val' k).1 = true then setAll (EL P l sp e0 L0 (listedS listed) val l.length).2 ((sd sp k).T (EL P l sp e0 L0 full val' k).1 (look (EL P l sp e0 L0 full val' k).2) v) else (EL P l sp e0 L0 (listedS listed) val l.length).2) →
        wpAny P .any l.toArray (lift n Q) fuel (listed.setIfInBounds k true) a' w' := by
      intro v a' w' hvv hs' hF' hS'
      have hstep := EL_step (P := P) (e0 := e0) (L0 := L0) ok hSc hSk v (val := val) l.length (by omega) (Nat.le_refl _)
      have hT : (sd sp k).T (EL P l sp e0 L0 (listedS listed) val k).1 (look (EL P l sp e0 L0 (listedS listed) val k).2) v = (sd sp k).T (EL P l sp e0 L0 full val' k).1 (look (EL P l sp e0 L0 full val' k).2) v :=
        T_loc _ (fun t ht => a1 t (ok.rs k t hkl ht)) (fun i hi => a2 i (.inl hi)) v
      refine ih (listed.setIfInBounds k true) a' w' (val1 val k v) (by simpa using hsz) (by rw [hSn]; exact hScn) ?_ (by rw [hSn]; exact hcnt) ?_ hF' ?_
      · rw [hSn]
        refine cons_step ok hSc hkl hSk hc ?_
        rw [hwk]
        split
        · rename_i hw
          rw [if_pos hw] at hvv
          rw [V_locL (L' := (EL P l sp e0 L0 full val' k).2) (sd sp k) hsel (ops := l.toArray) a1 (fun t ht => a1 t (ok.rs k t hkl ht)) (fun i hi => a2 i (.inl hi))]
          exact hvv
        · rename_i hw
          rw [if_neg hw] at hvv
          exact hvv
      · rw [hSn, hstep]; exact hs'
      · rw [hSn, hstep]
        simp only
        rw [hwk, hT]
        exact hS'
    unfold wpOp
    rw [ho]
    simp only
    rw [want_eq hs, hwa]
    cases h0 with
    | pass hw h3 =>
      rw [hw]
      simp only [Bool.false_eq_true, if_false]
      refine next undef _ w (by rw [if_neg (by rw [hw]; simp)]) ?_ hF (by rw [if_neg (by rw [hw]; simp)]; exact hS)
      cases hd : (od l k).dst with
      | none => exact hs
      | some d => exact hs.put (ok.dst k d hkl hd) undef
    | take hw hi hl h3 =>
      rw [hw, if_pos rfl]
      refine .inl ?_
      have hr := hl.out w _ hF hS (by rw [EL_length, EL_length]) (fun i hi => (b2 i hi).trans (a2 i hi))
      have hev : execOp (ev (EL P l sp e0 L0 full val' k).1) (od l k) = execOp (ev (EL P l sp e0 L0 (listedS listed) val l.length).1) (od l k) :=
        ev_loc hsel (ops := l.toArray) (fun t ht => ((b1 t ht).trans (a1 t ht)).symm)
      unfold RunsTo at hr
      rw [hev] at hr
      unfold Oper.wp
      rw [hs.ev]
      have put : ∀ v : Value, Sim n (a.put (od l k).dst v) (putD (EL P l sp e0 L0 (listedS listed) val l.length).1 (od l k).dst v) := by
        intro v
        cases hd : (od l k).dst with
        | none => exact hs
        | some d => exact hs.put (ok.dst k d hkl hd) v
      have go : ∀ v w', (sd sp k).V P (od l k) (EL P l sp e0 L0 full val' k).1 (look (EL P l sp e0 L0 full val' k).2) v ∧ Fr cx w' ∧ Sat cx w' (setAll (EL P l sp e0 L0 (listedS listed) val l.length).2 ((sd sp k).T (EL P l sp e0 L0 full val' k).1 (look (EL P l sp e0 L0 full val' k).2) v)) →
          wpAny P .any l.toArray (lift n Q) fuel (listed.setIfInBounds k true) (a.put (od l k).dst v) w' :=
        fun v w' ⟨g1, g2, g3⟩ => next v _ w' (by rw [if_pos hw]; exact g1) (put v) g2 (by rw [if_pos hw]; exact g3)
      generalize (execOp (ev (EL P l sp e0 L0 (listedS listed) val l.length).1) (od l k)).run P w = r at *
      cases r with
      | halt x w' => exact hr.elim
      | ok nx w' =>
        cases nx with
        | value v => exact go v w' hr
        | skip => exact go undef w' hr
        | enter f args =>
          show Calls P f args w' _
          refine Calls.mono hr ?_
          rintro en w'' ⟨v, rfl, hk'⟩
          exact go v w'' hk'
        | _ => exact hr.elim

theorem EL_none (S : Nat → Bool) (h : ∀ k, S k = false) (val : Nat → Value) : ∀ k, EL P l sp e0 L0 S val k = (e0, L0) := by
  intro k
  induction k with
  | zero => rfl
  | succ k ih => simp only [EL, h k]; exact ih

end sound

def empC : Chunk := ⟨fun S _ => ∀ b, ¬ S b, fun _ _ _ _ h => h⟩

theorem Sat.emp {cx : Cx} {w : World} {L : List Chunk} (h : Sat cx w L) (hF : Fr cx w) : Sat cx w (L ++ [empC]) :=
  h.snoc hF (Grow.refl w) (S := fun _ => False) (fun _ h => h) (fun _ h => h.elim)

theorem Sat.pad {cx : Cx} {w : World} (hF : Fr cx w) : ∀ (k : Nat) {L : List Chunk}, Sat cx w L → Sat cx w (L ++ List.replicate k empC)
  | 0, L, h => by simpa using h
  | k + 1, L, h => by
    have := Sat.pad hF k (h.emp hF)
    rwa [List.append_assoc, List.singleton_append, ← List.replicate_succ] at this

theorem c_regionD {P : Program} {n : Nat} {cx : Cx} {Q : Post} {e : Env} {L : List Chunk} {id : Nat} {l : List Oper} (sp : List Kd) (k : Nat) (hm : P.follows .mixedOrders = true)
    (h : Sq P cx l.toArray (fun e L => At cx (Q .normal) e L) l sp e (L ++ List.replicate k empC)) (hB : checkD n l sp = true) : At cx (WC P n (.region id l.toArray true) Q) e L :=
  ⟨fun w hF hS => ⟨fun a ha => by
    have ok := ok_of hB
    have hno : ∀ i, listedS (Array.replicate l.toArray.size false) i = false := by
      intro i
      simp only [listedS, Array.getD_eq_getD_getElem?, Array.getElem?_replicate]
      split <;> rfl
    refine wp_region_any hm (any_of ok h l.toArray.size (Array.replicate l.toArray.size false) a _ (fun _ => undef) (by simp) (fun k _ hk => by rw [hno k] at hk; cases hk) (fun j _ hj => by rw [hno j] at hj; cases hj) ?_ ?_ ⟨hF.os, hF.tape, hF.output, hF.size, hF.block⟩ ?_)
    · exact Nat.le_trans (List.length_filter_le _ _) (by simp)
    · rw [EL_none _ hno]; exact ha
    · rw [EL_none _ hno]
      have hg : Grow w { w with drawn := w.drawn + 1 } := ⟨rfl, rfl, rfl, Nat.le_refl _, fun _ _ => rfl⟩
      exact (hS.pad hF k).grow hg⟩⟩

end Go.Vc

namespace Go.Vc
open Go

def boxOf (v : Value) (cs : List Value) (T : TypeId) : Chunk :=
  match v with
  | .pointer (some a) => cellsC a.block cs T
  | .slice (some a) _ _ => cellsC a.block cs T
  | _ => empC

def isPtr (v : Value) : Prop := ∃ b, v = .pointer (some ⟨b, 0, none⟩)

def Kd.nw (i : Nat) (cs : List Value) (T : TypeId) : Kd := .g [] [] [i] (fun _ _ v => isPtr v) (fun _ _ v => [boxOf v cs T])
def Kd.st (a i : Nat) (cs : List Value) (T : TypeId) : Kd := .g [a] [i] [i] (fun _ _ v => v = undef) (fun vs _ _ => [boxOf (vs.headD undef) cs T])

section rules
variable {P : Program} {n : Nat} {cx : Cx} {Q : Post} {e : Env} {L : List Chunk} {ops : Array Oper} {F : Env → List Chunk → Prop} {rest : List Oper} {ss : List Kd}

theorem d_pass {o : Oper} {s : Kd} {d : Nat} (hw : want ops o e = false) (hd : o.dst = some d) (k : Sq P cx ops F rest ss (upd e d undef) L) : Sq P cx ops F (o :: rest) (s :: ss) e L :=
  .pass hw (by rw [hd]; exact k)

theorem d_val {o : Oper} {d : Nat} {v : Value} (hw : want ops o e = true) (hd : o.dst = some d) (hr : ∀ w, (execOp (ev e) o).run P w = .ok (.value v) w)
    (k : Sq P cx ops F rest ss (upd e d v) L) : Sq P cx ops F (o :: rest) (.p :: ss) e L := by
  refine .take hw ⟨v, hr⟩ ⟨fun w L' hF hS _ _ => ?_⟩ fun v' hv' => ?_
  · unfold RunsTo
    rw [hr]
    exact ⟨hr, hF, hS⟩
  · have h1 := hv' default
    rw [hr] at h1
    have : v = v' := by simpa using h1
    subst this
    rw [hd]
    exact k

theorem d_det {o : Oper} {d : Nat} {v : Value} {rds : List Nat} (hw : want ops o e = true) (hd : o.dst = some d)
    (h : ∀ w L', Fr cx w → Sat cx w L' → (∀ i ∈ rds, L'[i]? = L[i]?) → RunsTo P (ev e) o w fun v' w' => v' = v ∧ Grow w w')
    (k : Sq P cx ops F rest ss (upd e d v) L) : Sq P cx ops F (o :: rest) (.d rds v :: ss) e L := by
  refine .take hw ⟨v, rfl⟩ ⟨fun w L' hF hS _ hi => ?_⟩ fun v' hv' => ?_
  · refine (h w L' hF hS fun i hm => hi i (.inl hm)).mono fun v' w' ⟨h1, h2⟩ => ?_
    exact ⟨h1, hF.grow h2, hS.grow h2⟩
  · have : v' = v := hv'
    subst this
    rw [hd]
    exact k

variable {d : Nat} {ty : TypeId} {pos : String} {af : Array Edge} {g : Option (Nat × Bool)}

theorem d_load1 {i : Nat} {T T0 b o : Nat} {A : Operand} {cs : List Value} {v : Value} (hA : ∀ w, (isAgg T).run P w = .ok false w)
    (hw : want ops ⟨some d, .load T A, ty, pos, af, g⟩ e = true) (hp : ev e A = .pointer (some ⟨b, o, none⟩)) (hL : L[i]? = some (cellsC b cs T0)) (hv : rg cs o = some v)
    (k : Sq P cx ops F rest ss (upd e d v) L) : Sq P cx ops F (⟨some d, .load T A, ty, pos, af, g⟩ :: rest) (.d [i] v :: ss) e L :=
  d_det hw rfl (fun w L' hF hS hi => by
    have hc := cell_of (o := o) (sat_cell hS ((hi i (by simp)).trans hL))
    rw [← rg_eq, hv] at hc
    unfold RunsTo
    have : (execOp (ev e) ⟨some d, .load T A, ty, pos, af, g⟩).run P w = .ok (.value v) w := by
      simp [execOp, Instr.loadAt, Instr.sureAddr, hp, run_loadVar_one hA hc]
    rw [this]
    exact ⟨rfl, Grow.refl w⟩) k

theorem d_loadN {i : Nat} {T T0 b o sz : Nat} {A : Operand} {cs vs : List Value} (hA : ∀ w, (isAgg T).run P w = .ok true w) (hs : ∀ w, (sizeOf T).run P w = .ok sz w)
    (hw : want ops ⟨some d, .load T A, ty, pos, af, g⟩ e = true) (hp : ev e A = .pointer (some ⟨b, o, none⟩)) (hL : L[i]? = some (cellsC b cs T0)) (hv : rd cs o sz = some vs)
    (k : Sq P cx ops F rest ss (upd e d (.agg vs.toArray)) L) : Sq P cx ops F (⟨some d, .load T A, ty, pos, af, g⟩ :: rest) (.d [i] (.agg vs.toArray) :: ss) e L :=
  d_det hw rfl (fun w L' hF hS hi => by
    obtain ⟨h1, h2⟩ := rd_get hv
    have hr := run_loadVar_agg (P := P) (w := w) (b := b) (o := o) hA hs h1 (fun j v hj => by rw [cell_of (sat_cell hS ((hi i (by simp)).trans hL))]; exact h2 j v hj)
    unfold RunsTo
    have : (execOp (ev e) ⟨some d, .load T A, ty, pos, af, g⟩).run P w = .ok (.value (.agg vs.toArray)) w := by
      simp [execOp, Instr.loadAt, Instr.sureAddr, hp, hr]
    rw [this]
    exact ⟨rfl, Grow.refl w⟩) k

theorem d_call {f : FuncId} {A : Array Operand} {tys : Array TypeId} {args : List Value} {v : Value} (h : Ret P f args v) (hc : ∀ args w, (callFunc f args).run P w = .ok (.enter f args) w)
    (hw : want ops ⟨some d, .call ⟨.value (.func f), A, tys⟩, ty, pos, af, g⟩ e = true) (ha : A.toList.map (ev e) = args)
    (k : Sq P cx ops F rest ss (upd e d v) L) : Sq P cx ops F (⟨some d, .call ⟨.value (.func f), A, tys⟩, ty, pos, af, g⟩ :: rest) (.d [] v :: ss) e L :=
  d_det hw rfl (fun w L' _ _ _ => by
    unfold RunsTo
    rw [run_call hc ha]
    exact h w) k

theorem d_new {o : Oper} {i : Nat} {T : TypeId} {cs : List Value} (hw : want ops o e = true) (hd : o.dst = some d)
    (hr : ∀ w, (execOp (ev e) o).run P w = .ok (.value (.pointer (some ⟨w.heap.size, 0, none⟩))) (w.alloc (.cells cs.toArray T))) (hL : L[i]? = some empC)
    (k : ∀ b, Sq P cx ops F rest ss (upd e d (.pointer (some ⟨b, 0, none⟩))) (L.set i (cellsC b cs T))) : Sq P cx ops F (o :: rest) (.nw i cs T :: ss) e L := by
  refine .take hw ⟨.pointer (some ⟨0, 0, none⟩), 0, rfl⟩ ⟨fun w L' hF hS _ hi => ?_⟩ fun v' hv' => ?_
  · unfold RunsTo
    rw [hr]
    refine ⟨⟨_, rfl⟩, hF.grow (grow_alloc w _), ?_⟩
    refine hS.set hF ((hi i (.inr (by simp [Kd.nw, Kd.wrs]))).trans hL) (by simp) fun S _ hSo => ⟨fun x => x = w.heap.size, ⟨fun _ => Iff.rfl, heap_alloc_new w _⟩, fun b hb => ?_, fun b hb _ => (by first | exact heap_alloc_old w _ b hb | exact heap_alloc_old w _ hb)⟩
    subst hb
    exact ⟨by simp, .inr (Nat.le_refl _)⟩
  · obtain ⟨b, rfl⟩ : ∃ b, v' = .pointer (some ⟨b, 0, none⟩) := hv'
    rw [hd]
    exact k b

theorem run_alloc {d : Option Nat} {T : TypeId} {z : Value} {cs : List Value} (hz : ∀ w, (zeroValue T).run P w = .ok z w) (hc : z.cells.toList = cs) (w : World) :
    (execOp (ev e) ⟨d, .alloc T, ty, pos, af, g⟩).run P w = .ok (.value (.pointer (some ⟨w.heap.size, 0, none⟩))) (w.alloc (.cells cs.toArray T)) := by
  subst hc
  simp [execOp, Instr.alloc, hz, run_newVar]

theorem run_store {T T0 b o sz : Nat} {A X : Operand} {x : Value} {cs cs' vs : List Value} {w : World} (hs : ∀ w, (sizeOf T).run P w = .ok sz w) (hp : ev e A = .pointer (some ⟨b, o, none⟩)) (hx : ev e X = x) (hc : x.cells.toList = vs) (hsz : vs.length = sz)
    (hpos : Nat.blt 0 sz = true) (hone : vs.all Value.oneCell' = true) (hv : wr cs o vs = some cs') (hb : w.heap[b]? = some (.cells cs.toArray T0 (0, 0))) :
    (execOp (ev e) ⟨none, .store T A X, ty, pos, af, g⟩).run P w = .ok .skip (w.setRow b cs'.toArray) := by
  have hpos' : 0 < vs.length := by rw [hsz]; simpa using hpos
  obtain ⟨h1, h2⟩ := wr_eq hv hpos'
  have hst := run_storeCells_at P b o T0 vs 0 cs.toArray w hb (by simpa using h1) (by simpa using hone)
  have hsz' : x.cells.size = sz := by rw [← hsz, ← hc]; simp
  simp only [Nat.add_zero, List.append_assoc] at hst
  simp only [execOp, Instr.storeAt, Instr.sureAddr, storeVar, hp, hx, Sem.run_bind, Sem.run_pure, Result.andThen_ok, hs, hsz', ne_eq, not_true_eq_false, if_false, hc, hst]
  rw [h2]; simp

theorem d_nil (h : F e L) : Sq P cx ops F [] [] e L := .nil h

theorem splitS {os : List Oper} {b : Bool} (ht : b = true → Sq P cx ops F os ss (upd e d (.bool true)) L) (hf : b = false → Sq P cx ops F os ss (upd e d (.bool false)) L) : Sq P cx ops F os ss (upd e d (.bool b)) L := by
  cases b
  · exact hf rfl
  · exact ht rfl

end rules
end Go.Vc

namespace Go.Vc
open Go

section rules
variable {P : Program} {n : Nat} {cx : Cx} {Q : Post} {e : Env} {L : List Chunk} {ops : Array Oper} {rest : List Oper} {F : Env → List Chunk → Prop} {ss : List Kd}
variable {ty : TypeId} {pos : String} {af : Array Edge} {g : Option (Nat × Bool)}


theorem r_decT {o : Oper} {p : Prop} [Decidable p] (h : ∀ w, (execOp (ev e) o).run P w = .ok (.value (.bool (decide p))) w) (hp : p) (w : World) : (execOp (ev e) o).run P w = .ok (.value (.bool true)) w := by
  rw [h, decide_eq_true hp]
theorem r_decF {o : Oper} {p : Prop} [Decidable p] (h : ∀ w, (execOp (ev e) o).run P w = .ok (.value (.bool (decide p))) w) (hp : ¬ p) (w : World) : (execOp (ev e) o).run P w = .ok (.value (.bool false)) w := by
  rw [h, decide_eq_false hp]

theorem r_neqB {d : Option Nat} {t t' : TypeId} {X Y : Operand} {x y : Bool} (hu : P.underlying t = some .bool) (hx : ev e X = .bool x) (hy : ev e Y = .bool y) (w : World) :
    (execOp (ev e) ⟨d, .binOp .neq t X Y t', ty, pos, af, g⟩).run P w = .ok (.value (.bool (decide (x ≠ y)))) w := by
  have : (Op.equalIn Op.maxDepth t (.bool x) (.bool y)).run P w = .ok (x == y) w := run_equalIn_bool' w _ t x y hu
  simp [execOp, hx, hy, eqGuard, binOp, Op.equal, this]
  cases x <;> cases y <;> rfl


structure WR (P : Program) (n : Nat) (m : Nat) (c : Code) (Q : Post) (e : Env) (w : World) : Prop where
  out : ∀ a, Sim n a e → Code.rounds P c (lift n Q) m a w

def Keeps (M : List Nat) (e e' : Env) : Prop := ∀ t, (M.any fun x => Nat.beq x t) = false → e' t = e t

theorem Keeps.refl (M : List Nat) (e : Env) : Keeps M e e := fun _ _ => rfl
theorem Keeps.upd {M : List Nat} {e e' : Env} {d : Nat} {v : Value} (h : Keeps M e e') (hd : (M.any fun x => Nat.beq x d) = true) : Keeps M e (upd e' d v) := fun t ht => by
  rw [upd_ne _ _ _ _ (fun hh => by rw [hh, hd] at ht; cases ht)]
  exact h t ht
structure RoundK {σ : Type} (cx : Cx) (M : List Nat) (e0 : Env) (st : σ → List (Nat × Value)) (hp : σ → List Chunk) (I : σ → Prop) (m : Nat) (μ : σ → Nat) (e : Env) (w : World) : Prop where
  out : ∃ s, Agree e (st s) ∧ Keeps M e0 e ∧ Fr cx w ∧ Sat cx w (hp s) ∧ I s ∧ μ s < m


def Row (w : World) (a : Option Addr) (sz : Nat) (xs : List (List Value)) : Prop :=
  xs = [] ∨ ∃ b off, a = some ⟨b, off, none⟩ ∧ ∀ (i : Nat) (x : List Value), xs[i]? = some x → x.length = sz ∧ ∀ (j : Nat) (v : Value), x[j]? = some v → w.cell? ⟨b, off + i * sz + j, none⟩ = some v

theorem Row.some {w : World} {a : Option Addr} {sz : Nat} {xs : List (List Value)} (h : Row w a sz xs) {i : Nat} (hi : i < xs.length) : ∃ b off, a = some ⟨b, off, none⟩ := by
  rcases h with h | ⟨b, off, ha, _⟩
  · subst h; simp at hi
  · exact ⟨b, off, ha⟩

theorem row_get {sz : Nat} : ∀ (xs : List (List Value)) (i : Nat) (x : List Value), (xs.all fun x => Nat.beq x.length sz) = true → xs[i]? = some x → ∀ (j : Nat) (v : Value), x[j]? = some v → xs.flatten[i * sz + j]? = some v
  | [], i, x, _, hx, _, _, _ => by simp at hx
  | y :: ys, i, x, hl, hx, j, v, hv => by
    simp only [List.all_cons, Bool.and_eq_true] at hl
    have hy : y.length = sz := by simpa using hl.1
    have hj : j < x.length := by
      rcases Nat.lt_or_ge j x.length with h | h
      · exact h
      · simp [List.getElem?_eq_none h] at hv
    cases i with
    | zero =>
      simp at hx; subst hx
      simp only [List.flatten_cons, Nat.zero_mul, Nat.zero_add]
      rw [List.getElem?_append_left hj]
      exact hv
    | succ i =>
      simp at hx
      have := row_get ys i x hl.2 hx j v hv
      simp only [List.flatten_cons]
      rw [List.getElem?_append_right (by rw [Nat.succ_mul]; omega)]
      rw [show (i + 1) * sz + j - y.length = i * sz + j from by rw [Nat.succ_mul]; omega]
      exact this

theorem row_box {w : World} {i b : Nat} {cs : List Value} {T : TypeId} {sz : Nat} {xs : List (List Value)} (hS : Sat cx w L) (hL : L[i]? = some (cellsC b cs T)) (hcs : xs.flatten = cs) (hlen : (xs.all fun x => Nat.beq x.length sz) = true) : Row w (some ⟨b, 0, none⟩) sz xs := by
  refine .inr ⟨b, 0, rfl, fun i x hx => ⟨?_, fun j v hv => ?_⟩⟩
  · have := List.all_eq_true.1 hlen x (List.mem_of_getElem? hx)
    simpa using this
  · rw [cell_of (sat_cell hS hL), ← hcs, Nat.zero_add]
    exact row_get xs i x hlen hx j v hv

theorem Row.at {w : World} {a : Option Addr} {sz : Nat} {α : Type} {f : α → List Value} {xs : List α} (h : Row w a sz (xs.map f)) {k : Nat} (hk : k < xs.length) : ∃ b off, a = Option.some ⟨b, off, none⟩ :=
  h.some (i := k) (by simpa using hk)

def ptrAt (a : Option Addr) (k : Nat) : Value :=
  match a with
  | some x => .pointer (some ⟨x.block, x.off + k, none⟩)
  | none => undef

theorem r_len {d : Option Nat} {X : Operand} {a : Option Addr} {m c : Nat} {t u : TypeId} (hu : P.underlying t = some (.slice u)) (hx : ev e X = .slice a m c) (w : World) :
    (execOp (ev e) ⟨d, .call ⟨.builtin .len, #[X], #[t]⟩, ty, pos, af, g⟩).run P w = .ok (.value (.int .i64 m)) w := by
  simp [execOp, resolve, invoke, builtin, hx, Builtin.len_, run_underlying hu, goInt]

theorem r_index {d : Option Nat} {X I : Operand} {a : Option Addr} {m c : Nat} {t u sz : Nat} {k : IntKind} {i : Int} (hu : P.underlying t = some (.slice u)) (hs : ∀ w, (sizeOf u).run P w = .ok sz w)
    (hx : ev e X = .slice a m c) (hi : ev e I = .int k i) (ha : ∃ b off, a = some ⟨b, off, none⟩) (h0 : 0 ≤ i) (h1 : i < m) (w : World) :
    (execOp (ev e) ⟨d, .indexAddr t X I, ty, pos, af, g⟩).run P w = .ok (.value (ptrAt a (i.toNat * sz))) w := by
  obtain ⟨b, off, rfl⟩ := ha
  simp [execOp, Instr.indexAt, hx, hi, asIntOf, run_underlying hu, h0, h1, hs, ptrAt, Addr.add_lit]

theorem r_fieldP {d : Option Nat} {T fld k fo ft fsz bo : Nat} {a : Option Addr} {nm tg pk : String} {em : Bool} {X : Operand} {fs : Array Field} (hu : ∀ w, (underlying T).run P w = .ok (.struct fs) w)
    (hf : fs[fld]? = some ⟨nm, ft, fo, em, tg, pk, bo⟩) (hs : ∀ w, (sizeOf ft).run P w = .ok fsz w) (hsz : Nat.blt 0 fsz = true) (hp : ev e X = ptrAt a k) (ha : ∃ b off, a = some ⟨b, off, none⟩) (w : World) :
    (execOp (ev e) ⟨d, .fieldAddr T X fld, ty, pos, af, g⟩).run P w = .ok (.value (ptrAt a (k + fo))) w := by
  obtain ⟨b, off, rfl⟩ := ha
  rw [r_field hu hf hs hsz hp w]
  simp [ptrAt, Nat.add_assoc]

theorem run_loadP1 {T k : Nat} {d : Option Nat} {a : Option Addr} {A : Operand} {sz i j : Nat} {xs : List (List Value)} {x : List Value} {v : Value} {w : World} (hA : ∀ w, (isAgg T).run P w = .ok false w)
    (hp : ev e A = ptrAt a k) (hk : k = i * sz + j) (hr : Row w a sz xs) (hx : xs[i]? = some x) (hv : rg x j = some v) :
    (execOp (ev e) ⟨d, .load T A, ty, pos, af, g⟩).run P w = .ok (.value v) w := by
  rcases hr with rfl | ⟨b, off, rfl, h⟩
  · simp at hx
  · have hc := (h i x hx).2 j v (by rw [← rg_eq]; exact hv)
    subst hk
    have hp' : ev e A = .pointer (some ⟨b, off + i * sz + j, none⟩) := by rw [hp]; simp [ptrAt, Nat.add_assoc]
    simp [execOp, Instr.loadAt, Instr.sureAddr, hp', run_loadVar_one hA hc]

theorem run_loadPN {T k m : Nat} {d : Option Nat} {a : Option Addr} {A : Operand} {sz i j : Nat} {xs : List (List Value)} {x vs : List Value} {w : World} (hA : ∀ w, (isAgg T).run P w = .ok true w) (hs : ∀ w, (sizeOf T).run P w = .ok m w)
    (hp : ev e A = ptrAt a k) (hk : k = i * sz + j) (hr : Row w a sz xs) (hx : xs[i]? = some x) (hv : rd x j m = some vs) :
    (execOp (ev e) ⟨d, .load T A, ty, pos, af, g⟩).run P w = .ok (.value (.agg vs.toArray)) w := by
  rcases hr with rfl | ⟨b, off, rfl, h⟩
  · simp at hx
  · obtain ⟨h1, h2⟩ := rd_get hv
    subst hk
    have hp' : ev e A = .pointer (some ⟨b, off + i * sz + j, none⟩) := by rw [hp]; simp [ptrAt, Nat.add_assoc]
    have := run_loadVar_agg (P := P) (w := w) (b := b) (o := off + i * sz + j) hA hs h1 (fun q v hq => by
      rw [Nat.add_assoc]; exact (h i x hx).2 (j + q) v (h2 q v hq))
    simp [execOp, Instr.loadAt, Instr.sureAddr, hp', this]

theorem l_read {o : Oper} {d : Nat} {v : Value} (hr : ∀ w, Fr cx w → Sat cx w L → (execOp (ev e) o).run P w = .ok (.value v) w) (hw : want ops o e = true) (hd : o.dst = some d) (hn : Nat.blt d n = true)
    (k : At cx (WL P n ops Q rest) (upd e d v) L) : At cx (WL P n ops Q (o :: rest)) e L :=
  l_yields hw hd hn fun w hF hS => ⟨v, w, hr w hF hS, k.out w hF hS⟩

theorem d_read {o : Oper} {d : Nat} {v : Value} (hr : ∀ w, Fr cx w → (execOp (ev e) o).run P w = .ok (.value v) w) (hw : want ops o e = true) (hd : o.dst = some d)
    (k : Sq P cx ops F rest ss (upd e d v) L) : Sq P cx ops F (o :: rest) (.d [] v :: ss) e L :=
  d_det hw hd (fun w _ hF _ _ => by unfold RunsTo; rw [hr w hF]; exact ⟨rfl, Grow.refl w⟩) k

theorem l_callG {d : Nat} {f : FuncId} {A : Array Operand} {tys : Array TypeId} {args : List Value} {v : Value} (h : ∀ w, Fr cx w → Sat cx w L → Does P f args.toArray w fun v' w' => v' = v ∧ Grow w w') (hc : ∀ args w, (callFunc f args).run P w = .ok (.enter f args) w)
    (hw : want ops ⟨some d, .call ⟨.value (.func f), A, tys⟩, ty, pos, af, g⟩ e = true) (hn : Nat.blt d n = true) (ha : A.toList.map (ev e) = args)
    (k : At cx (WL P n ops Q rest) (upd e d v) L) : At cx (WL P n ops Q (⟨some d, .call ⟨.value (.func f), A, tys⟩, ty, pos, af, g⟩ :: rest)) e L :=
  l_calls hw rfl hn (run_call hc ha) fun w hF hS => (h w hF hS).mono fun v' w' ⟨hv, hg⟩ => by
    subst hv
    exact k.out w' (hF.grow hg) (hS.grow hg)

theorem d_callD {d : Nat} {f : FuncId} {A : Array Operand} {tys : Array TypeId} {args : List Value} {v : Value} {rds : List Nat} (h : ∀ w L', Fr cx w → Sat cx w L' → (∀ i ∈ rds, L'[i]? = L[i]?) → Does P f args.toArray w fun v' w' => v' = v ∧ Grow w w') (hc : ∀ args w, (callFunc f args).run P w = .ok (.enter f args) w)
    (hw : want ops ⟨some d, .call ⟨.value (.func f), A, tys⟩, ty, pos, af, g⟩ e = true) (ha : A.toList.map (ev e) = args)
    (k : Sq P cx ops F rest ss (upd e d v) L) : Sq P cx ops F (⟨some d, .call ⟨.value (.func f), A, tys⟩, ty, pos, af, g⟩ :: rest) (.d rds v :: ss) e L :=
  d_det hw rfl (fun w L' hF hS hi => by
    unfold RunsTo
    rw [run_call hc ha]
    exact h w L' hF hS hi) k



theorem fold_set (off : Nat) : ∀ (vs : List Value) (j : Nat) (cs : Array Value), off + j + vs.length ≤ cs.size →
    ((vs.zipIdx j).foldl (fun cs (p : Value × Nat) => cs.setIfInBounds (off + p.2) p.1) cs).toList = cs.toList.take (off + j) ++ vs ++ cs.toList.drop (off + j + vs.length)
  | [], j, cs, _ => by simp
  | v :: vs, j, cs, h => by
    simp only [List.zipIdx_cons, List.foldl_cons]
    rw [fold_set off vs (j + 1) _ (by simp at h ⊢; omega)]
    have hlt : off + j < cs.size := by simp at h; omega
    simp only [Array.toList_setIfInBounds, List.length_cons]
    have e1 : (cs.toList.set (off + j) v).take (off + (j + 1)) = cs.toList.take (off + j) ++ [v] := by
      rw [show off + (j + 1) = (off + j) + 1 from by omega, List.take_add_one]
      rw [List.take_set_of_le (Nat.le_refl _)]
      simp [hlt]
    have e2 : (cs.toList.set (off + j) v).drop (off + (j + 1) + vs.length) = cs.toList.drop (off + j + (vs.length + 1)) := by
      rw [List.drop_set_of_lt (by omega)]
      congr 1; omega
    rw [e1, e2]
    simp

theorem fill_all (sz : Nat) : ∀ (vs : List Value) (i : Nat) (cs : Array Value), (∀ v ∈ vs, v.cells.size = sz) → cs.size = (i + vs.length) * sz →
    ∃ out : Array Value, Instr.fill (fun i => some (i * sz, sz)) cs ((vs.zipIdx i).map fun p => (p.2, p.1)) = some out ∧ out.toList = cs.toList.take (i * sz) ++ vs.flatMap fun v => v.cells.toList
  | [], i, cs, _, hsz => ⟨cs, rfl, by simp at hsz; simp [← hsz, List.take_of_length_le]⟩
  | v :: vs, i, cs, hv, hsz => by
    have h1 : v.cells.size = sz := hv v (by simp)
    have hle : i * sz + v.cells.size ≤ cs.size := by
      rw [h1, hsz, ← Nat.succ_mul]; exact Nat.mul_le_mul_right _ (by simp)
    have hf := fold_set (i * sz) v.cells.toList 0 cs (by simpa using hle)
    obtain ⟨out, ho1, ho2⟩ := fill_all sz vs (i + 1) (v.cells.zipIdx.foldl (fun cs (p : Value × Nat) => cs.setIfInBounds (i * sz + p.2) p.1) cs) (fun u hu => hv u (by simp [hu])) (by
      have : (v.cells.zipIdx.foldl (fun cs (p : Value × Nat) => cs.setIfInBounds (i * sz + p.2) p.1) cs).size = cs.size := by
        rw [← Array.foldl_toList, ← Array.length_toList, Array.toList_zipIdx, hf]
        simp
        omega
      rw [this, hsz]; simp; congr 1; omega)
    refine ⟨out, ?_, ?_⟩
    · simp only [List.zipIdx_cons, List.map_cons, Instr.fill]
      rw [if_neg (by simp [h1]; omega)]
      exact ho1
    · rw [ho2, ← Array.foldl_toList, Array.toList_zipIdx, hf]
      simp only [List.flatMap_cons]
      rw [show (i + 1) * sz = i * sz + v.cells.toList.length from by rw [Nat.succ_mul]; simp [h1]]
      simp only [Nat.add_zero]
      have hl : (cs.toList.take (i * sz) ++ v.cells.toList).length = i * sz + v.cells.toList.length := by simp; omega
      rw [List.take_left' hl, List.append_assoc]

theorem run_buildSlice {d : Option Nat} {t u sz m : Nat} {parts : Array (Nat × Operand)} {z : Value} {vs : List Value} {cs : List Value} (hu : P.underlying t = some (.slice u)) (hs : ∀ w, (sizeOf u).run P w = .ok sz w) (hz : ∀ w, (zeroValue u).run P w = .ok z w)
    (hps : parts.toList.map (fun (i, x) => (i, ev e x)) = (vs.zipIdx 0).map fun p => (p.2, p.1)) (hm : vs.length = m) (hall : (vs.all fun v => Nat.beq v.cells.size sz) = true) (hb : Nat.ble (m * sz) 16777216 = true) (hcs : (vs.flatMap fun v => v.cells.toList) = cs) (w : World) :
    (execOp (ev e) ⟨d, .buildSlice t m parts, ty, pos, af, g⟩).run P w = .ok (.value (.slice (some ⟨w.heap.size, 0, none⟩) m m)) (w.alloc (.cells cs.toArray u)) := by
  have hps' : (parts.map fun (i, x) => (i, ev e x)).toList = (vs.zipIdx 0).map fun p => (p.2, p.1) := by rw [← hps, Array.toList_map]
  have hb' : m * sz ≤ 16777216 := by simpa using hb
  have hall' : ∀ v ∈ vs, v.cells.size = sz := fun v hv => by simpa using List.all_eq_true.1 hall v hv
  have key : ∀ cs0 : Array Value, cs0.size = m * sz → Instr.fill (fun i => some (i * sz, sz)) cs0 ((vs.zipIdx 0).map fun p => (p.2, p.1)) = some cs.toArray := by
    intro cs0 h0
    obtain ⟨out, h1, h2⟩ := fill_all sz vs 0 cs0 hall' (by rw [h0, Nat.zero_add, hm])
    rw [h1]
    congr 1
    apply Array.ext'
    rw [h2, ← hcs]; simp
  have h24 : ¬ m * sz > 2 ^ 24 := by omega
  by_cases h0 : m * sz = 0
  · simp only [execOp, Instr.buildSlice, Sem.run_bind, run_underlying hu, Result.andThen_ok, hs, hps', h24, if_false]
    simp only [h0, if_true, Sem.run_pure, pure_bind]
    rw [key _ (by simp [h0])]
    simp [newRow, newObj, Sem.run]
  · have hk := key ((Array.range (m * sz)).map (z.cells[· % z.cells.size]!)) (by simp)
    simp only [execOp, Instr.buildSlice, Sem.run_bind, run_underlying hu, Result.andThen_ok, hs, hps', h24, h0, if_false, hz, Sem.run_pure, hk]
    simp [newRow, newObj, Sem.run]

theorem l_buildSlice {d : Nat} {t u sz m : Nat} {parts : Array (Nat × Operand)} {z : Value} {vs cs : List Value} (hu : P.underlying t = some (.slice u)) (hs : ∀ w, (sizeOf u).run P w = .ok sz w) (hz : ∀ w, (zeroValue u).run P w = .ok z w)
    (hw : want ops ⟨some d, .buildSlice t m parts, ty, pos, af, g⟩ e = true) (hn : Nat.blt d n = true)
    (hps : parts.toList.map (fun (i, x) => (i, ev e x)) = (vs.zipIdx 0).map fun p => (p.2, p.1)) (hm : vs.length = m) (hall : (vs.all fun v => Nat.beq v.cells.size sz) = true) (hb : Nat.ble (m * sz) 16777216 = true) (hcs : (vs.flatMap fun v => v.cells.toList) = cs)
    (k : ∀ b, At cx (WL P n ops Q rest) (upd e d (.slice (some ⟨b, 0, none⟩) m m)) (L ++ [cellsC b cs u])) : At cx (WL P n ops Q (⟨some d, .buildSlice t m parts, ty, pos, af, g⟩ :: rest)) e L :=
  l_yields hw rfl hn fun w hF hS => ⟨.slice (some ⟨w.heap.size, 0, none⟩) m m, w.alloc (.cells cs.toArray u), run_buildSlice hu hs hz hps hm hall hb hcs w, (k w.heap.size).out _ (hF.grow (grow_alloc w _)) (sat_new hF hS cs u)⟩

end rules
end Go.Vc

namespace Go.Vc
open Go


structure Turn (w w' : World) (S : Nat → Prop) (C : Chunk) : Prop where
  os : w'.os = w.os
  tape : w'.tape = w.tape
  output : w'.output = w.output
  size : w.heap.size ≤ w'.heap.size
  block : ∀ b, b < w.heap.size → ¬ S b → w'.heap[b]? = w.heap[b]?
  out : ∃ S' : Nat → Prop, C.P S' w' ∧ ∀ b, S' b → b < w'.heap.size ∧ (S b ∨ w.heap.size ≤ b)

abbrev noS : Nat → Prop := fun _ => False

structure Imp (C D : Chunk) : Prop where
  out : ∀ S w, C.P S w → D.P S w
theorem Imp.refl (C : Chunk) : Imp C C := ⟨fun _ _ h => h⟩
theorem Imp.of {C D : Chunk} (h : C = D) : Imp C D := h ▸ Imp.refl C

theorem Turn.grow {w w' : World} {C : Chunk} (h : Turn w w' noS C) : Grow w w' := ⟨h.os, h.tape, h.output, h.size, fun k hk => h.block k hk (fun x => x)⟩

theorem finX {σ : Type} {w0 : World} {S : Nat → Prop} {L : List Chunk} {v : Value} {G : σ → Value} {C : σ → Chunk} {i : Nat} {C0 : Chunk} (x : σ) (hL : L[i]? = some C0) (hv : v = G x) (hc : Imp C0 (C x)) :
    ∀ w, Fr ⟨w0, S⟩ w → Sat ⟨w0, S⟩ w L → ∃ x, v = G x ∧ Turn w0 w S (C x) := fun w hF hS => by
  refine ⟨x, hv, hF.os, hF.tape, hF.output, hF.size, fun b hb hn => hF.block b ?_, ?_⟩
  · rintro (h | h)
    · exact absurd h (by show ¬ w0.heap.size ≤ b; omega)
    · exact hn h
  · obtain ⟨fp, h1, h2, _⟩ := hS.out
    refine ⟨fp i, hc.out _ _ (h1 i C0 hL), fun b hb => ?_⟩
    obtain ⟨_, a2, a3⟩ := h2 i b hb
    exact ⟨a2, a3.symm⟩

theorem Sat.one {w : World} {S : Nat → Prop} {C : Chunk} (h : C.P S w) (hb : ∀ b, S b → b < w.heap.size) : Sat ⟨w, S⟩ w [C] :=
  ⟨fun i b => i = 0 ∧ S b, fun i c hc => by
    cases i with
    | zero => simp at hc; subst hc; simpa using h
    | succ i => simp at hc, fun i b ⟨hi, hs⟩ => ⟨by simp [hi], hb b hs, .inr hs⟩, fun i j b ⟨hi, _⟩ ⟨hj, _⟩ => by omega⟩

section rules
variable {P : Program} {n : Nat} {cx : Cx} {Q : Post} {e : Env} {L : List Chunk} {ops : Array Oper} {F : Env → List Chunk → Prop} {rest : List Oper} {ss : List Kd}
variable {d : Nat} {ty : TypeId} {pos : String} {af : Array Edge} {g : Option (Nat × Bool)}

theorem c_know {K : Env → World → Prop} {φ : Prop} (h : ∀ w, Fr cx w → Sat cx w L → φ) (k : φ → At cx K e L) : At cx K e L :=
  ⟨fun w hF hS => (k (h w hF hS)).out w hF hS⟩

theorem Fr.turn {w w' : World} {S : Nat → Prop} {C : Chunk} (hF : Fr cx w) (h : Turn w w' S C) (hS : ∀ b, S b → cx.own b) : Fr cx w' :=
  ⟨h.os.trans hF.os, h.tape.trans hF.tape, h.output.trans hF.output, Nat.le_trans hF.size h.size, fun b hb => by
    have hlt : b < w.heap.size := by
      have : ¬ cx.w0.heap.size ≤ b := fun hh => hb (.inl hh)
      have := hF.size
      omega
    rw [h.block b hlt (fun hs => hb (hS b hs)), hF.block b hb]⟩

theorem Sat.turnNew {w w' : World} {C : Chunk} (hS : Sat cx w L) (hF : Fr cx w) (h : Turn w w' noS C) : Sat cx w' (L ++ [C]) := by
  obtain ⟨S', h1, h2⟩ := h.out
  exact hS.snoc hF h.grow h1 fun b hb => ⟨((h2 b hb).2.resolve_left (fun x => x)), (h2 b hb).1⟩

theorem Sat.turnAt {w w' : World} {i : Nat} {C0 C : Chunk} (hS : Sat cx w L) (hF : Fr cx w) (hL : L[i]? = some C0)
    (h : ∀ S : Nat → Prop, C0.P S w → (∀ b, S b → b < w.heap.size ∧ cx.own b) → Turn w w' S C) (hs : w.heap.size ≤ w'.heap.size) : Sat cx w' (L.set i C) :=
  hS.set hF hL hs fun S hp hb => by
    have t := h S hp hb
    obtain ⟨S', k1, k2⟩ := t.out
    exact ⟨S', k1, k2, fun b hlt hn => t.block b hlt hn⟩

theorem Sat.at {w : World} {i : Nat} {C : Chunk} (hS : Sat cx w L) (hL : L[i]? = some C) : ∃ S : Nat → Prop, C.P S w ∧ ∀ b, S b → b < w.heap.size ∧ cx.own b := by
  obtain ⟨fp, h1, h2, _⟩ := hS.out
  exact ⟨fp i, h1 i C hL, fun b hb => (h2 i b hb).2⟩

theorem l_runs {o : Oper} {d : Nat} (hw : want ops o e = true) (hd : o.dst = some d) (hn : Nat.blt d n = true)
    (h : ∀ w, Fr cx w → Sat cx w L → RunsTo P (ev e) o w fun v w' => WL P n ops Q rest (upd e d v) w') : At cx (WL P n ops Q (o :: rest)) e L :=
  ⟨fun w hF hS => ⟨fun a ha => by
    have hr := h w hF hS
    unfold RunsTo at hr
    unfold wpList
    rw [want_eq ha, hw, if_pos rfl]
    refine .inl ?_
    unfold Oper.wp
    rw [ha.ev]
    generalize (execOp (ev e) o).run P w = r at hr
    cases r with
    | halt x w' => exact hr.elim
    | ok nx w' =>
      cases nx with
      | value v =>
        show wpList P ops (lift n Q) rest (a.put o.dst v) w'
        rw [hd]
        exact hr.out _ (ha.put hn v)
      | skip =>
        show wpList P ops (lift n Q) rest (a.put o.dst undef) w'
        rw [hd]
        exact hr.out _ (ha.put hn undef)
      | enter f args =>
        refine Calls.mono hr ?_
        rintro en w'' ⟨v, rfl, hk⟩
        show wpList P ops (lift n Q) rest (a.put o.dst v) w''
        rw [hd]
        exact hk.out _ (ha.put hn v)
      | _ => exact hr.elim⟩⟩

def Turns (P : Program) (cx : Cx) (e : Env) (o : Oper) (L : List Chunk) (i : Nat) (rds : List Nat) {σ : Type} (G : σ → Value) (C : σ → Chunk) : Prop :=
  ∀ w L', Fr cx w → Sat cx w L' → L'.length = L.length → (∀ j, j ∈ rds ∨ j = i → L'[j]? = L[j]?) → RunsTo P (ev e) o w fun v w' => ∃ x, v = G x ∧ Fr cx w' ∧ Sat cx w' (L'.set i (C x))

def Makes (P : Program) (cx : Cx) (e : Env) (o : Oper) (L : List Chunk) (rds : List Nat) {σ : Type} (G : σ → Value) (C : σ → Chunk) : Prop :=
  ∀ w L', Fr cx w → Sat cx w L' → (∀ j, j ∈ rds → L'[j]? = L[j]?) → RunsTo P (ev e) o w fun v w' => ∃ x, v = G x ∧ Turn w w' noS (C x)

theorem l_turn {σ : Type} {o : Oper} {d i : Nat} {rds : List Nat} {G : σ → Value} {C : σ → Chunk} (h : Turns P cx e o L i rds G C) (hw : want ops o e = true) (hd : o.dst = some d) (hn : Nat.blt d n = true)
    (k : ∀ x, At cx (WL P n ops Q rest) (upd e d (G x)) (L.set i (C x))) : At cx (WL P n ops Q (o :: rest)) e L :=
  l_runs hw hd hn fun w hF hS => (h w L hF hS rfl (fun _ _ => rfl)).mono fun v w' ⟨x, hv, hF', hS'⟩ => by
    subst hv
    exact (k x).out w' hF' hS'

theorem l_make {σ : Type} {o : Oper} {d : Nat} {rds : List Nat} {G : σ → Value} {C : σ → Chunk} (h : Makes P cx e o L rds G C) (hw : want ops o e = true) (hd : o.dst = some d) (hn : Nat.blt d n = true)
    (k : ∀ x, At cx (WL P n ops Q rest) (upd e d (G x)) (L ++ [C x])) : At cx (WL P n ops Q (o :: rest)) e L :=
  l_runs hw hd hn fun w hF hS => (h w L hF hS (fun _ _ => rfl)).mono fun v w' ⟨x, hv, ht⟩ => by
    subst hv
    exact (k x).out w' (hF.grow ht.grow) (hS.turnNew hF ht)

def Kd.t (i : Nat) (rds : List Nat) {σ : Type} (G : σ → Value) (Cv : Value → Chunk) : Kd := .g [] rds [i] (fun _ _ v => ∃ x, v = G x) (fun _ _ v => [Cv v])

theorem d_turn {σ : Type} {o : Oper} {d i : Nat} {rds : List Nat} {G : σ → Value} {C : σ → Chunk} {Cv : Value → Chunk} (x0 : σ) (h : Turns P cx e o L i rds G C) (hC : ∀ x, Cv (G x) = C x) (hw : want ops o e = true) (hd : o.dst = some d)
    (k : ∀ x, Sq P cx ops F rest ss (upd e d (G x)) (L.set i (C x))) : Sq P cx ops F (o :: rest) (.t i rds G Cv :: ss) e L := by
  refine .take hw ⟨G x0, x0, rfl⟩ ⟨fun w L' hF hS hl hi => ?_⟩ fun v' hv' => ?_
  · refine (h w L' hF hS hl fun j hj => hi j (by simpa [Kd.t, Kd.rds, Kd.wrs] using hj)).mono fun v w' ⟨x, hv, hF', hS'⟩ => ?_
    subst hv
    refine ⟨⟨x, rfl⟩, hF', ?_⟩
    show Sat cx w' (L'.set i (Cv (G x)))
    rw [hC]; exact hS'
  · obtain ⟨x, rfl⟩ : ∃ x, v' = G x := hv'
    show Sq P cx ops F rest ss (putD e o.dst (G x)) (L.set i (Cv (G x)))
    rw [hC, hd]
    exact k x

theorem d_make {σ : Type} {o : Oper} {d i : Nat} {rds : List Nat} {G : σ → Value} {C : σ → Chunk} {Cv : Value → Chunk} (x0 : σ) (h : Makes P cx e o L rds G C) (hC : ∀ x, Cv (G x) = C x) (hL : L[i]? = some empC) (hw : want ops o e = true) (hd : o.dst = some d)
    (k : ∀ x, Sq P cx ops F rest ss (upd e d (G x)) (L.set i (C x))) : Sq P cx ops F (o :: rest) (.t i rds G Cv :: ss) e L := by
  refine d_turn x0 (fun w L' hF hS hl hi => ?_) hC hw hd k
  refine (h w L' hF hS fun j hj => hi j (.inl hj)).mono fun v w' ⟨x, hv, ht⟩ => ⟨x, hv, hF.grow ht.grow, ?_⟩
  exact hS.turnAt hF ((hi i (.inr rfl)).trans hL) (fun S hp _ => by
    obtain ⟨S', k1, k2⟩ := ht.out
    exact ⟨ht.os, ht.tape, ht.output, ht.size, fun b hb _ => ht.block b hb (fun x => x), S', k1, fun b hb => ⟨(k2 b hb).1, .inr ((k2 b hb).2.resolve_left (fun x => x))⟩⟩) ht.size

theorem makes_call {σ : Type} {d : Nat} {f : FuncId} {A : Array Operand} {tys : Array TypeId} {args : List Value} {rds : List Nat} {G : σ → Value} {C : σ → Chunk}
    (h : ∀ w L', Fr cx w → Sat cx w L' → (∀ j ∈ rds, L'[j]? = L[j]?) → Does P f args.toArray w fun v w' => ∃ x, v = G x ∧ Turn w w' noS (C x)) (hc : ∀ args w, (callFunc f args).run P w = .ok (.enter f args) w)
    (ha : A.toList.map (ev e) = args) : Makes P cx e ⟨some d, .call ⟨.value (.func f), A, tys⟩, ty, pos, af, g⟩ L rds G C := fun w L' hF hS hi => by
  unfold RunsTo
  rw [run_call hc ha]
  exact h w L' hF hS hi


def rowV (E : TypeId) (sz : Nat) (v : Value) (n : Nat) (xs : List (List Value)) : Chunk where
  P S w := (w.ownsRow 0 E sz v n xs.flatten ∧ xs.length = n ∧ ∀ x ∈ xs, x.length = sz) ∧ ∀ b, v.ownBlock = some b → S b
  loc S w w' h := by
    rintro ⟨⟨⟨h1, h2⟩, h3⟩, h4⟩
    refine ⟨⟨⟨h1, ?_⟩, h3⟩, h4⟩
    rcases h2 with h2 | ⟨g, cap, cur, rfl, hb, hh, hr⟩
    · exact .inl h2
    · exact .inr ⟨g, cap, cur, rfl, hb, (h g (h4 g rfl)).trans hh, hr⟩

theorem ownsRow_Row {w : World} {E sz n c : Nat} {a : Option Addr} {xs : List (List Value)} (h : w.ownsRow 0 E sz (.slice a n c) n xs.flatten) (hn : xs.length = n) (hl : ∀ x ∈ xs, x.length = sz) : Row w a sz xs := by
  rcases h.2 with ⟨hv, h0⟩ | ⟨g, cap, cur, hv, _, hh, hnc, _, hcs, ht⟩
  · exact .inl (List.eq_nil_of_length_eq_zero (hn.trans h0))
  · simp only [Value.slice.injEq] at hv
    obtain ⟨rfl, _, rfl⟩ := hv
    refine .inr ⟨g, 0, rfl, fun i x hx => ⟨hl x (List.mem_of_getElem? hx), fun j v hj => ?_⟩⟩
    have hg := row_get xs i x (List.all_eq_true.2 fun y hy => by simpa using hl y hy) hx j v hj
    rw [← ht, List.getElem?_take] at hg
    split at hg
    · rw [World.cell?, hh]
      simpa using hg
    · cases hg

theorem rowOf {w : World} {i E sz n c : Nat} {a : Option Addr} {xs : List (List Value)} (hS : Sat cx w L) (hL : L[i]? = some (rowV E sz (.slice a n c) n xs)) : Row w a sz xs := by
  obtain ⟨S, ⟨⟨h1, h2, h3⟩, _⟩, _⟩ := hS.at hL
  exact ownsRow_Row h1 h2 h3

theorem c_nilRow {K : Env → World → Prop} (E sz : Nat) (k : At cx K e (L ++ [rowV E sz (.slice none 0 0) 0 []])) : At cx K e L :=
  ⟨fun w hF hS => k.out w hF (hS.snoc hF (Grow.refl w) (S := noS) ⟨⟨World.ownsRow_nil _ _ _ _, rfl, by simp⟩, by simp [Value.ownBlock]⟩ (fun _ h => h.elim))⟩

theorem c_imp {K : Env → World → Prop} (i : Nat) {C C' : Chunk} (hL : L[i]? = some C) (h : Imp C C') (k : At cx K e (L.set i C')) : At cx K e L :=
  ⟨fun w hF hS => k.out w hF (hS.set hF hL (Nat.le_refl _) fun S hp hb => ⟨S, h.out S w hp, fun b hs => ⟨(hb b hs).1, .inl hs⟩, fun _ _ _ => rfl⟩)⟩

theorem d_readD {o : Oper} {d : Nat} {v : Value} {rds : List Nat} (hr : ∀ w L', Fr cx w → Sat cx w L' → (∀ i ∈ rds, L'[i]? = L[i]?) → (execOp (ev e) o).run P w = .ok (.value v) w) (hw : want ops o e = true) (hd : o.dst = some d)
    (k : Sq P cx ops F rest ss (upd e d v) L) : Sq P cx ops F (o :: rest) (.d rds v :: ss) e L :=
  d_det hw hd (fun w L' hF hS hi => by unfold RunsTo; rw [hr w L' hF hS hi]; exact ⟨rfl, Grow.refl w⟩) k


theorem run_append_at {d : Option Nat} {S X : Operand} {t E : TypeId} {I : TypeInfo} {z : Value} {sz by_ : Nat} {w : World} {v : Value} {m : Nat} {xs : List Value} {ad : Addr} {q c : Nat} {news : List Value}
    (ht : P.underlying t = some (.slice E)) (hi : P.info? E = some I) (hz : I.zero = some z) (hsize : I.size = sz) (hby : I.bytes = by_) (hzs : z.cells.size = sz) (hsz : 0 < sz)
    (hs : ev e S = v) (hown : w.ownsRow 0 E sz v m xs) (hx : ev e X = .slice (some ad) q c) (hl : news.length = q * sz) (hnews : ∀ j u, news[j]? = some u → w.cell? (ad.add j) = some u) (h1 : ∀ u ∈ news, u.oneCell' = true)
    (h63 : m + q ≤ maxLen) (hbytes : (m + q) * by_ ≤ 140737488355328) :
    ∃ v' w', (execOp (ev e) ⟨d, .call ⟨.builtin .append, #[S, X], #[t, t]⟩, ty, pos, af, g⟩).run P w = .ok (.value v') w' ∧ w'.ownsRow 0 E sz v' (m + q) (xs ++ news) ∧ w.grownBy w' v.ownBlock ∧ (v'.ownBlock = v.ownBlock ∨ v'.ownBlock = some w.heap.size) := by
  obtain ⟨v', w', hr, h2, h3, h4, h5⟩ := run_append_own_at (P := P) w 0 t ty E I z sz by_ ht hi hz hsize hby hzs hsz v m xs hown ad q c news hl hnews h1 h63 hbytes (Nat.zero_le _)
  refine ⟨v', w', ?_, h2, h3, h5⟩
  simp only [execOp, resolve, invoke, builtin, Sem.run_bind, Sem.run_pure, Result.andThen_ok, List.map_toArray, List.map_cons, List.map_nil, hs, hx, hr]

theorem slice_of_row {w : World} {E sz n : Nat} {v : Value} {xs : List Value} (h : w.ownsRow 0 E sz v n xs) : ∃ p : Option Addr × Nat, v = .slice p.1 n p.2 := by
  rcases h.2 with ⟨rfl, h0⟩ | ⟨g, cap, cur, rfl, _⟩
  · subst h0; exact ⟨(none, 0), rfl⟩
  · exact ⟨(some ⟨g, 0, none⟩, cap), rfl⟩

theorem turn_append {w w' : World} {E sz m' : Nat} {v v' : Value} {xs' : List (List Value)} {S : Nat → Prop} (hS : ∀ b, v.ownBlock = some b → S b) (ho : w'.ownsRow 0 E sz v' m' xs'.flatten) (hg : w.grownBy w' v.ownBlock)
    (h5 : v'.ownBlock = v.ownBlock ∨ v'.ownBlock = some w.heap.size) (hn : xs'.length = m') (hl : ∀ x ∈ xs', x.length = sz) : Turn w w' S (rowV E sz v' m' xs') := by
  refine ⟨hg.os, hg.tape, hg.output, hg.size, fun b hb hn => hg.block b hb (fun h => hn (hS b h.symm)), fun b => v'.ownBlock = some b, ⟨⟨ho, hn, hl⟩, fun b h => h⟩, fun b hb => ⟨(ho.lt b hb).2, ?_⟩⟩
  rcases h5 with h | h
  · exact .inl (hS b (h ▸ hb))
  · rw [h] at hb; cases hb; exact .inr (Nat.le_refl _)

theorem Sat.turnOf {w w' : World} {i : Nat} {C0 C : Chunk} (hS : Sat cx w L) (hF : Fr cx w) (hL : L[i]? = some C0)
    (h : ∀ S : Nat → Prop, C0.P S w → Turn w w' S C) : Fr cx w' ∧ Sat cx w' (L.set i C) := by
  obtain ⟨S, hp, hb⟩ := hS.at hL
  have t := h S hp
  exact ⟨hF.turn t fun b hs => (hb b hs).2, hS.turnAt hF hL (fun S hp _ => h S hp) t.size⟩

theorem flat_get {sz : Nat} : ∀ (xs : List (List Value)), (∀ x ∈ xs, x.length = sz) → ∀ (j : Nat) (u : Value), xs.flatten[j]? = some u → ∃ i k x, xs[i]? = some x ∧ x[k]? = some u ∧ j = i * sz + k
  | [], _, j, u, h => by simp at h
  | x :: r, hl, j, u, h => by
    have hx := hl x (by simp)
    rw [List.flatten_cons] at h
    rcases Nat.lt_or_ge j x.length with hj | hj
    · rw [List.getElem?_append_left hj] at h
      exact ⟨0, j, x, by simp, h, by simp⟩
    · rw [List.getElem?_append_right hj] at h
      obtain ⟨i, k, y, h1, h2, h3⟩ := flat_get r (fun y hy => hl y (by simp [hy])) _ u h
      exact ⟨i + 1, k, y, by simpa using h1, h2, by rw [Nat.succ_mul]; omega⟩

theorem flat_len {sz : Nat} : ∀ (xs : List (List Value)), (∀ x ∈ xs, x.length = sz) → xs.flatten.length = xs.length * sz
  | [], _ => by simp
  | x :: r, hl => by
    rw [List.flatten_cons, List.length_append, flat_len r (fun y hy => hl y (by simp [hy])), hl x (by simp), List.length_cons, Nat.succ_mul]
    omega

theorem turns_append {i : Nat} {S X : Operand} {t E : TypeId} {I : TypeInfo} {z : Value} {sz by_ : Nat} {p : Option Addr × Nat} {m m' : Nat} {xs xs' : List (List Value)} {ad : Addr} {q c : Nat} {news : List (List Value)} {rds : List Nat}
    (ht : P.underlying t = some (.slice E)) (hi : P.info? E = some I) (hz : I.zero = some z) (hsize : I.size = sz) (hby : I.bytes = by_) (hzs : z.cells.size = sz) (hsz : Nat.blt 0 sz = true)
    (hL : L[i]? = some (rowV E sz (.slice p.1 m p.2) m xs)) (hs : ev e S = .slice p.1 m p.2) (hx : ev e X = .slice (some ad) q c) (hq : news.length = q) (hnl : ∀ x ∈ news, x.length = sz)
    (hnews : ∀ w L', Fr cx w → Sat cx w L' → (∀ j, j ∈ rds → L'[j]? = L[j]?) → Row w (some ad) sz news) (h1 : ∀ x ∈ news, ∀ u ∈ x, u.oneCell' = true)
    (hxs : xs ++ news = xs') (hm : m + q = m') (h63 : m' ≤ 9223372036854775807) (hbytes : m' * by_ ≤ 140737488355328) :
    Turns P cx e ⟨some d, .call ⟨.builtin .append, #[S, X], #[t, t]⟩, ty, pos, af, g⟩ L i rds (fun p' : Option Addr × Nat => .slice p'.1 m' p'.2) (fun p' => rowV E sz (.slice p'.1 m' p'.2) m' xs') := fun w L' hF hS hl hi' => by
    subst hxs hm
    have hL' := (hi' i (.inr rfl)).trans hL
    obtain ⟨S0, ⟨⟨ho, hlen, hlx⟩, hob⟩, _⟩ := hS.at hL'
    have hsz' : 0 < sz := by simpa using hsz
    have hfl : news.flatten.length = q * sz := by rw [flat_len news hnl, hq]
    have hcell : ∀ j u, news.flatten[j]? = some u → w.cell? (ad.add j) = some u := by
      intro j u hj
      obtain ⟨i', k', x, g1, g2, g3⟩ := flat_get news hnl j u hj
      rcases hnews w L' hF hS (fun j hj => hi' j (.inl hj)) with h | ⟨b, off, ha, h⟩
      · subst h; simp at g1
      · cases ha
        have := (h i' x g1).2 k' u g2
        rw [Addr.add_lit, g3, ← Nat.add_assoc]
        exact this
    obtain ⟨v', w', hr, h2, h3, h5⟩ := run_append_at (P := P) (ty := ty) (pos := pos) (af := af) (g := g) (d := some d) ht hi hz hsize hby hzs hsz' hs ho hx hfl hcell (by
      intro u hu
      obtain ⟨x, hx, hux⟩ := List.mem_flatten.1 hu
      exact h1 x hx u hux) (by simp only [maxLen]; omega) hbytes
    obtain ⟨p', rfl⟩ := slice_of_row h2
    rw [← List.flatten_append] at h2
    obtain ⟨hF', hS'⟩ := hS.turnOf hF hL' (C := rowV E sz (.slice p'.1 (m + q) p'.2) (m + q) (xs ++ news)) fun S1 hp => turn_append hp.2 h2 h3 h5 (by simp [hlen, hq]) (by
      intro x hx
      rcases List.mem_append.1 hx with h | h
      · exact hlx x h
      · exact hnl x h)
    unfold RunsTo
    rw [hr]
    exact ⟨p', rfl, hF', hS'⟩

theorem rep_flat (l : List Value) : ∀ (n j : Nat), j < n * l.length → (List.replicate n l).flatten[j]? = l[j % l.length]?
  | 0, j, h => by simp at h
  | n + 1, j, h => by
    rw [List.replicate_succ, List.flatten_cons]
    rcases Nat.lt_or_ge j l.length with hj | hj
    · rw [List.getElem?_append_left hj, Nat.mod_eq_of_lt hj]
    · rw [List.getElem?_append_right hj, rep_flat l n (j - l.length) (by rw [Nat.succ_mul] at h; omega), ← Nat.mod_eq_sub_mod hj]

theorem made_rep (z : Array Value) (n : Nat) (hz : 0 < z.size) : (madeCells z (n * z.size)).toList = (List.replicate n z.toList).flatten := by
  refine List.ext_getElem? fun j => ?_
  rcases Nat.lt_or_ge j (n * z.size) with hj | hj
  · have h1 := rep_flat z.toList n j (by simpa using hj)
    rw [h1]
    have hm : j % z.size < z.size := Nat.mod_lt _ hz
    simp [madeCells, hj, hm]
  · rw [List.getElem?_eq_none (by simpa [madeCells] using hj), List.getElem?_eq_none]
    rw [flat_len (sz := z.size) _ (by intro x hx; rw [List.eq_of_mem_replicate hx]; simp)]
    simpa using hj

theorem makes_makeSlice {N C : Operand} {t E : TypeId} {I : TypeInfo} {z : Value} {sz by_ : Nat} {m c : Nat} {kl kc : IntKind} {rds : List Nat} {zs : List (List Value)} (ht : P.underlying t = some (.slice E)) (hi : P.info? E = some I) (hz : I.zero = some z) (hsize : I.size = sz) (hby : I.bytes = by_)
    (hzs : z.cells.toList.length = sz) (hsz : Nat.blt 0 sz = true) (hn : ev e N = .int kl (m : Int)) (hc : ev e C = .int kc (c : Int)) (hmc : m = c) (hb : by_ * c ≤ 281474976710656) (h63 : c ≤ 9223372036854775807) (hzz : zs = List.replicate m z.cells.toList) :
    Makes P cx e ⟨some d, .makeSlice t N C, ty, pos, af, g⟩ L rds (fun p : Option Addr × Nat => .slice p.1 m p.2) (fun p => rowV E sz (.slice p.1 m p.2) m zs) := fun w L' hF hS hi' => by
  subst hsize hby hmc hzz
  obtain ⟨w', hr, ho, hg⟩ := run_make_full (P := P) w 0 t E I z I.size ht hi hz rfl kl kc m hb (by simpa [maxLen] using h63) (Nat.zero_le _)
  have hsz' : 0 < I.size := by simpa using hsz
  have hzz : z.cells.size = I.size := by simpa using hzs
  have ho' : w'.ownsRow 0 E I.size (.slice (some ⟨w.heap.size, 0, none⟩) m m) m (List.replicate m z.cells.toList).flatten := by
    rw [← made_rep z.cells m (by omega), hzz]; exact ho
  unfold RunsTo
  simp only [execOp, hn, hc, hr, Sem.run_bind, Sem.run_pure, Result.andThen_ok]
  refine ⟨(_, _), rfl, hg.os, hg.tape, hg.output, hg.size, fun b hb _ => hg.block b hb (by simp), fun b => b = w.heap.size, ⟨⟨ho', by simp, fun x hx => by rw [List.eq_of_mem_replicate hx]; exact hzs⟩, fun b hb => ?_⟩, fun b hb => ?_⟩
  · simp [Value.ownBlock] at hb; exact hb.symm
  · subst hb
    exact ⟨(ho.lt _ rfl).2, .inr (Nat.le_refl _)⟩


def cutA (a : Option Addr) (l m sz : Nat) : Option Addr := if m = l then a else a.map (·.add (l * sz))

theorem Row.cut {w : World} {a : Option Addr} {sz : Nat} {xs : List (List Value)} (h : Row w a sz xs) (l q m : Nat) (hq : l + q ≤ m) : Row w (cutA a l m sz) sz ((xs.drop l).take q) := by
  rcases h with h | ⟨b, off, rfl, h⟩
  · subst h; exact .inl (by simp)
  · unfold cutA
    by_cases hm : m = l
    · have hq0 : q = 0 := by omega
      subst hq0
      exact .inl (by simp)
    · rw [if_neg hm]
      refine .inr ⟨b, off + l * sz, by simp [Addr.add_lit], fun i x hx => ?_⟩
      rw [List.getElem?_take] at hx
      split at hx
      · rw [List.getElem?_drop] at hx
        obtain ⟨h1, h2⟩ := h (l + i) x hx
        refine ⟨h1, fun j v hv => ?_⟩
        have := h2 j v hv
        rw [show off + l * sz + i * sz + j = off + (l + i) * sz + j from by rw [Nat.add_mul]; omega]
        exact this
      · cases hx

theorem elem_of {t u : TypeId} (hu : P.underlying t = some (.slice u)) : P.elem t = u := by simp [Program.elem, hu]

theorem r_sliceL {d : Option Nat} {X A : Operand} {a : Option Addr} {m c : Nat} {t u sz : Nat} {ka : IntKind} {l : Int} (hu : P.underlying t = some (.slice u)) (hs : ∀ w, (sizeOf u).run P w = .ok sz w)
    (hx : ev e X = .slice a m c) (ha : ev e A = .int ka l) (h0 : 0 ≤ l) (h1 : l ≤ m) (w : World) :
    (execOp (ev e) ⟨d, .slice t X (some A) none none, ty, pos, af, g⟩).run P w = .ok (.value (.slice (cutA a l.toNat c sz) (m - l.toNat) (c - l.toNat))) w := by
  have hu' : P.underlying t = some (.slice (P.elem t)) := by rw [elem_of hu]; exact hu
  simp only [execOp, Option.map_some, Option.map_none, hx, ha, Sem.run_bind, run_sliceAt_slice w t _ _ _ _ hu', run_slice_l w t a m c hu' ka l h0 h1, elem_of hu, hs, Result.andThen_ok, Sem.run_pure, sliced, cutA]

theorem r_sliceH {d : Option Nat} {X B : Operand} {a : Option Addr} {m c : Nat} {t u sz : Nat} {kb : IntKind} {h : Int} (hu : P.underlying t = some (.slice u)) (hs : ∀ w, (sizeOf u).run P w = .ok sz w)
    (hx : ev e X = .slice a m c) (hb : ev e B = .int kb h) (h0 : 0 ≤ h) (h2 : h ≤ c) (w : World) :
    (execOp (ev e) ⟨d, .slice t X none (some B) none, ty, pos, af, g⟩).run P w = .ok (.value (.slice (cutA a 0 c sz) h.toNat c)) w := by
  have hu' : P.underlying t = some (.slice (P.elem t)) := by rw [elem_of hu]; exact hu
  simp only [execOp, Option.map_some, Option.map_none, hx, hb, Sem.run_bind, run_sliceAt_slice w t _ _ _ _ hu', run_slice_h w t a m c hu' kb h h0 h2, elem_of hu, hs, Result.andThen_ok, Sem.run_pure, sliced, cutA, Nat.sub_zero]

theorem r_sliceHM {d : Option Nat} {X B M : Operand} {a : Option Addr} {m c : Nat} {t u sz : Nat} {kb km : IntKind} {h q : Int} (hu : P.underlying t = some (.slice u)) (hs : ∀ w, (sizeOf u).run P w = .ok sz w)
    (hx : ev e X = .slice a m c) (hb : ev e B = .int kb h) (hm : ev e M = .int km q) (h0 : 0 ≤ h) (h1 : h ≤ q) (h2 : q ≤ c) (w : World) :
    (execOp (ev e) ⟨d, .slice t X none (some B) (some M), ty, pos, af, g⟩).run P w = .ok (.value (.slice (cutA a 0 q.toNat sz) h.toNat q.toNat)) w := by
  have hu' : P.underlying t = some (.slice (P.elem t)) := by rw [elem_of hu]; exact hu
  simp only [execOp, Option.map_some, Option.map_none, hx, hb, hm, Sem.run_bind, run_sliceAt_slice w t _ _ _ _ hu', run_slice_hm w t a m c hu' kb km h q h0 h1 h2, elem_of hu, hs, Result.andThen_ok, Sem.run_pure, sliced, cutA, Nat.sub_zero]

theorem capOf {w : World} {i E sz n c : Nat} {a : Option Addr} {xs : List (List Value)} (hS : Sat cx w L) (hL : L[i]? = some (rowV E sz (.slice a n c) n xs)) : n ≤ c := by
  obtain ⟨S, ⟨⟨h1, h2, h3⟩, _⟩, _⟩ := hS.at hL
  rcases h1.2 with ⟨hv, h0⟩ | ⟨g, cap, cur, hv, _, hh, hnc, _⟩
  · simp only [Value.slice.injEq] at hv; omega
  · simp only [Value.slice.injEq] at hv; omega

theorem own_cut {a : Option Addr} {m c l : Nat} (sz : Nat) {x y : Nat} : (Value.slice (cutA a l m sz) x c).ownBlock = (Value.slice a y c).ownBlock := by
  unfold cutA
  cases a with
  | none => split <;> rfl
  | some a =>
    split
    · rfl
    · simp only [Value.ownBlock, Option.map_some, Addr.add]
      split <;> rfl

theorem imp_box {b m sz : Nat} {cs : List Value} {T E : TypeId} {xs : List (List Value)} (hT : T = E) (hcs : xs.flatten = cs) (hl : (xs.all fun x => Nat.beq x.length sz) = true) (hm : xs.length = m ∧ m ≤ 9223372036854775807) :
    Imp (cellsC b cs T) (rowV E sz (.slice (some ⟨b, 0, none⟩) m m) m xs) := ⟨fun S w h => by
  subst hT hcs
  have hl' : ∀ x ∈ xs, x.length = sz := fun x hx => by simpa using List.all_eq_true.1 hl x hx
  have hf := flat_len xs hl'
  refine ⟨⟨⟨by rw [hf, hm.1], .inr ⟨b, m, _, rfl, Nat.zero_le _, h.2, Nat.le_refl _, by simpa [maxLen] using hm.2, by simp [hf, hm.1], ?_⟩⟩, hm.1, hl'⟩, fun c hc => ?_⟩
  · rw [List.toList_toArray, List.take_of_length_le (by rw [hf, hm.1]; omega)]
  · simp [Value.ownBlock] at hc; exact (h.1 c).2 hc.symm⟩

end rules
end Go.Vc

namespace Go.Vc
open Go

section rules
variable {P : Program} {n : Nat} {cx : Cx} {Q : Post} {e : Env} {L : List Chunk} {ops : Array Oper} {F : Env → List Chunk → Prop} {rest : List Oper} {ss : List Kd}
variable {d : Nat} {ty : TypeId} {pos : String} {af : Array Edge} {g : Option (Nat × Bool)}


theorem flatten_set {sz : Nat} : ∀ (xs : List (List Value)) (i : Nat) (x : List Value), (∀ x ∈ xs, x.length = sz) → i < xs.length → (xs.set i x).flatten = xs.flatten.take (i * sz) ++ x ++ xs.flatten.drop ((i + 1) * sz)
  | [], i, x, _, h => by simp at h
  | y :: r, 0, x, hl, _ => by
    have hy := hl y (by simp)
    simp [hy.symm]
  | y :: r, i + 1, x, hl, h => by
    have hy := hl y (by simp)
    have ih := flatten_set r i x (fun z hz => hl z (by simp [hz])) (by simpa using h)
    have e1 : (y ++ r.flatten).take ((i + 1) * sz) = y ++ r.flatten.take (i * sz) := by
      rw [List.take_append, List.take_of_length_le (l := y) (by rw [Nat.succ_mul]; omega), show (i + 1) * sz - y.length = i * sz from by rw [Nat.succ_mul]; omega]
    have e2 : (y ++ r.flatten).drop ((i + 1 + 1) * sz) = r.flatten.drop ((i + 1) * sz) := by
      rw [List.drop_append, List.drop_of_length_le (l := y) (by rw [Nat.succ_mul]; omega), show (i + 1 + 1) * sz - y.length = (i + 1) * sz from by rw [Nat.succ_mul (i + 1)]; omega, List.nil_append]
    rw [List.set_cons_succ, List.flatten_cons, ih, List.flatten_cons, e1, e2]
    simp

theorem flat_at {sz : Nat} (xs : List (List Value)) (i : Nat) (x : List Value) (hl : ∀ x ∈ xs, x.length = sz) (hx : xs[i]? = some x) : x = (xs.flatten.drop (i * sz)).take sz := by
  have hxl := hl x (List.mem_of_getElem? hx)
  refine List.ext_getElem? fun j => ?_
  rcases Nat.lt_or_ge j x.length with hj | hj
  · have := row_get xs i x (List.all_eq_true.2 fun y hy => by simpa using hl y hy) hx j x[j] (by simp [hj])
    rw [List.getElem?_take, if_pos (by omega), List.getElem?_drop, this]
    simp [hj]
  · rw [List.getElem?_eq_none hj, List.getElem?_take, if_neg (by omega)]

theorem set_cells {sz m i j : Nat} {cur vs : List Value} {xs : List (List Value)} {x x' : List Value} (hl : ∀ x ∈ xs, x.length = sz) (ht : cur.take (m * sz) = xs.flatten) (hm : xs.length = m) (hx : xs[i]? = some x) (hc : m * sz ≤ cur.length)
    (h1 : j + vs.length ≤ x.length) (h2 : x' = x.take j ++ vs ++ x.drop (j + vs.length)) :
    (cur.take (i * sz + j) ++ vs ++ cur.drop (i * sz + j + vs.length)).take (m * sz) = (xs.set i x').flatten := by
  have hi : i < xs.length := by
    rcases Nat.lt_or_ge i xs.length with h | h
    · exact h
    · simp [List.getElem?_eq_none h] at hx
  have hxl := hl x (List.mem_of_getElem? hx)
  have hle : (i + 1) * sz ≤ m * sz := Nat.mul_le_mul_right _ (by omega)
  rw [Nat.succ_mul] at hle
  have hfx := flat_at xs i x hl hx
  rw [flatten_set xs i x' hl hi, h2, ← ht]
  rw [← ht] at hfx
  have hTl : (cur.take (m * sz)).length = m * sz := by simp; omega
  generalize hT : cur.take (m * sz) = T at *
  have hcur : cur = T ++ cur.drop (m * sz) := by rw [← hT, List.take_append_drop]
  have hTs : T = T.take (i * sz) ++ (x ++ T.drop ((i + 1) * sz)) := by
    conv => lhs; rw [← List.take_append_drop (i * sz) T]
    rw [hfx]
    congr 1
    rw [Nat.succ_mul, ← List.drop_drop, List.take_append_drop]
  have e1 : cur.take (i * sz + j) = T.take (i * sz) ++ x.take j := by
    rw [hcur, List.take_append_of_le_length (by omega)]
    conv => lhs; rw [hTs]
    rw [List.take_append, List.take_of_length_le (by simp; omega), List.length_take, Nat.min_eq_left (by omega), Nat.add_sub_cancel_left, List.take_append_of_le_length (by omega)]
  have e2 : cur.drop (i * sz + j + vs.length) = x.drop (j + vs.length) ++ (T.drop ((i + 1) * sz) ++ cur.drop (m * sz)) := by
    conv => lhs; rw [hcur, List.drop_append_of_le_length (by omega), hTs]
    rw [List.drop_append, List.drop_of_length_le (l := T.take (i * sz)) (by simp; omega), List.length_take, Nat.min_eq_left (by omega), Nat.add_assoc, Nat.add_sub_cancel_left, List.nil_append, List.drop_append_of_le_length (by omega)]
    simp
  rw [e1, e2]
  have e3 : T.take (i * sz) ++ List.take j x ++ vs ++ (List.drop (j + vs.length) x ++ (List.drop ((i + 1) * sz) T ++ List.drop (m * sz) cur)) = (T.take (i * sz) ++ (x.take j ++ vs ++ x.drop (j + vs.length)) ++ T.drop ((i + 1) * sz)) ++ cur.drop (m * sz) := by simp
  rw [e3, List.take_append_of_le_length, List.take_of_length_le]
  · simp only [List.length_append, List.length_take, List.length_drop]; rw [Nat.succ_mul]; omega
  · simp only [List.length_append, List.length_take, List.length_drop]; rw [Nat.succ_mul]; omega

theorem run_storeR {T i j sz szT k m c : Nat} {A X : Operand} {x : Value} {a : Option Addr} {y y' vs : List Value} {xs : List (List Value)} {E : TypeId} {w : World} (hs : ∀ w, (sizeOf T).run P w = .ok szT w) (hp : ev e A = ptrAt a k) (hk : k = i * sz + j) (hx : ev e X = x) (hc : x.cells.toList = vs) (hsz : vs.length = szT)
    (hpos : Nat.blt 0 szT = true) (hone : vs.all Value.oneCell' = true) (hy : xs[i]? = some y) (hv : wr y j vs = some y') (ho : w.ownsRow 0 E sz (.slice a m c) m xs.flatten) (hm : xs.length = m) (hl : ∀ x ∈ xs, x.length = sz) :
    ∃ w', (execOp (ev e) ⟨none, .store T A X, ty, pos, af, g⟩).run P w = .ok .skip w' ∧ w'.ownsRow 0 E sz (.slice a m c) m (xs.set i y').flatten ∧ w.grownBy w' (Value.slice a m c).ownBlock := by
  have hpos' : 0 < vs.length := by rw [hsz]; simpa using hpos
  obtain ⟨h1, h2⟩ := wr_eq hv hpos'
  have hi : i < xs.length := by
    rcases Nat.lt_or_ge i xs.length with h | h
    · exact h
    · simp [List.getElem?_eq_none h] at hy
  rcases ho.2 with ⟨_, h0⟩ | ⟨g0, cap, cur, hv0, hb0, hh, hnc, hcm, hcs, htk⟩
  · omega
  · simp only [Value.slice.injEq] at hv0
    obtain ⟨rfl, _, rfl⟩ := hv0
    have hyl := hl y (List.mem_of_getElem? hy)
    have hcap : m * sz ≤ c * sz := Nat.mul_le_mul_right _ hnc
    have hle : (i + 1) * sz ≤ m * sz := Nat.mul_le_mul_right _ (by omega)
    rw [Nat.succ_mul] at hle
    have hst := run_storeCells_at P g0 k E vs 0 cur w hh (by rw [hk]; omega) (by simpa using hone)
    have hsz' : x.cells.size = szT := by rw [← hsz, ← hc]; simp
    have hp' : ev e A = .pointer (some ⟨g0, k, none⟩) := by rw [hp]; simp [ptrAt]
    simp only [Nat.add_zero] at hst
    refine ⟨w.setRow g0 (cur.toList.take k ++ vs ++ cur.toList.drop (k + vs.length)).toArray, by
      simp only [execOp, Instr.storeAt, Instr.sureAddr, storeVar, hp', hx, Sem.run_bind, Sem.run_pure, Result.andThen_ok, hs, hsz', ne_eq, not_true_eq_false, if_false, hc, hst], ⟨?_, .inr ⟨g0, c, _, rfl, hb0, setRow_heap w g0 cur _ E _ hh, hnc, hcm, ?_, ?_⟩⟩, ⟨rfl, rfl, rfl, by simp, fun b _ hb => setRow_other w g0 b _ (fun e => hb (by simp [Value.ownBlock, e]))⟩⟩
    · rw [flat_len (sz := sz) _ (by
        intro z hz
        rcases List.mem_or_eq_of_mem_set hz with h | h
        · exact hl z h
        · subst h; rw [h2]; simp only [List.length_append, List.length_take, List.length_drop]; omega)]
      simp [hm]
    · simp only [List.size_toArray, List.length_append, List.length_take, List.length_drop, Array.length_toList, hcs]
      rw [hk]; omega
    · rw [List.toList_toArray, hk]
      exact set_cells hl htk hm hy (by simpa [hcs] using hcap) h1 h2

theorem info_of {T : TypeId} {I : TypeInfo} (h : ∀ w, (typeInfo T).run P w = .ok I w) : P.info? T = some I := by
  have := h default
  unfold typeInfo at this
  cases hi : P.info? T with
  | none => simp [hi] at this
  | some J => simp [hi] at this; rw [this]

theorem r_indexA {d : Option Nat} {t u len sz : Nat} {X I : Operand} {cs : Array Value} {k : IntKind} {i : Int} {v : Value} (hu : ∀ w, (underlying t).run P w = .ok (.array len u) w) (hA : ∀ w, (isAgg u).run P w = .ok false w) (hs : ∀ w, (sizeOf u).run P w = .ok sz w)
    (hx : ev e X = .agg cs) (hi : ev e I = .int k i) (h0 : 0 ≤ i) (h1 : i < len) (hv : cs[i.toNat * sz]? = some v) (w : World) :
    (execOp (ev e) ⟨d, .index t X I, ty, pos, af, g⟩).run P w = .ok (.value v) w := by
  simp [execOp, Instr.index, asIntOf, hx, hi, hu, hs, h0, h1, part, hA, hv]

theorem r_indexPA {d : Option Nat} {t u len sz b o : Nat} {X I : Operand} {k : IntKind} {i : Int} (hu : ∀ w, (underlying t).run P w = .ok (.array len u) w) (hs : ∀ w, (sizeOf u).run P w = .ok sz w)
    (hx : ev e X = .pointer (some ⟨b, o, none⟩)) (hi : ev e I = .int k i) (h0 : 0 ≤ i) (h1 : i < len) (w : World) :
    (execOp (ev e) ⟨d, .indexAddr t X I, ty, pos, af, g⟩).run P w = .ok (.value (.pointer (some ⟨b, o + i.toNat * sz, none⟩))) w := by
  simp [execOp, Instr.indexAt, Instr.sureAddr, hx, hi, asIntOf, hu, h0, h1, hs, Addr.add_lit]

theorem r_buildA {d : Option Nat} {t u len sz : Nat} {parts : Array (Nat × Operand)} {z cells : Array Value} {ps : List (Nat × Value)} (hz : ∀ w, (zeroValue t).run P w = .ok (.agg z) w) (hu : ∀ w, (underlying t).run P w = .ok (.array len u) w) (hs : ∀ w, (sizeOf u).run P w = .ok sz w)
    (hps : parts.toList.map (fun (i, x) => (i, ev e x)) = ps) (hf : Instr.fill (fun i => some (i * sz, sz)) z ps = some cells) (w : World) :
    (execOp (ev e) ⟨d, .build t parts, ty, pos, af, g⟩).run P w = .ok (.value (.agg cells)) w := by
  have hz' : (Value.agg z).cells = z := rfl
  have hps' : (parts.map fun (i, x) => (i, ev e x)).toList = ps := by rw [← hps, Array.toList_map]
  simp only [execOp, Instr.build, Sem.run_bind, hz, hu, hs, Result.andThen_ok, hps', hz', hf, Sem.run_pure]

theorem run_eqInts {d t u len : Nat} {k k' : IntKind} (us vs : List Int) (hl : us.length = len) (hl' : vs.length = len) (ht : P.underlying t = some (.array len u)) (hu : P.underlying u = some (.int k')) (hA : ∀ w, (isAgg u).run P w = .ok false w) (hs : ∀ w, (sizeOf u).run P w = .ok 1 w) (w : World) :
    (Op.equalIn (d + 2) t (.agg (us.map (Value.int k)).toArray) (.agg (vs.map (Value.int k)).toArray)).run P w = .ok (decide (us = vs)) w := by
  have key : ∀ (m s : Nat), s + m = len → us.take s = vs.take s →
      ((do
        for i in List.range' s m do
          if !(← Op.equalIn (d + 1) u (← part u (us.map (Value.int k)).toArray (i * 1)) (← part u (vs.map (Value.int k)).toArray (i * 1))) then return false
        pure true : Sem Bool)).run P w = .ok (decide (us = vs)) w := by
    intro m
    induction m with
    | zero =>
      intro s hs' ht'
      rw [List.take_of_length_le (by omega), List.take_of_length_le (by omega)] at ht'
      simp [ht']
    | succ m ih =>
      intro s hs' ht'
      have h1 : s < us.length := by omega
      have h2 : s < vs.length := by omega
      have e1 : (part u (us.map (Value.int k)).toArray (s * 1)).run P w = .ok (.int k us[s]) w := by simp [part, hA, h1]
      have e2 : (part u (vs.map (Value.int k)).toArray (s * 1)).run P w = .ok (.int k vs[s]) w := by simp [part, hA, h2]
      have e3 := run_equalIn_int (P := P) w d u k k' us[s] vs[s] hu
      rw [List.range'_succ]
      simp only [List.forIn_cons, Sem.run_bind, e1, e2, Result.andThen_ok, e3]
      by_cases he : us[s] = vs[s]
      · have := ih (s + 1) (by omega) (by rw [List.take_add_one, List.take_add_one, ht', List.getElem?_eq_getElem h1, List.getElem?_eq_getElem h2, he])
        simp only [he, beq_self_eq_true, Bool.not_true, Bool.false_eq_true, if_false, Sem.run_pure, Result.andThen_ok]
        simp only [Sem.run_bind] at this
        exact this
      · have hne : us ≠ vs := fun h => he (by subst h; rfl)
        have hb : (us[s] == vs[s]) = false := by simp [he]
        simp [hb, hne]
  have h0 := key len 0 (by omega) (by simp)
  rw [Op.equalIn]
  simp only [Sem.run_bind, run_underlying ht, Result.andThen_ok, hs]
  simp only [Std.Legacy.Range.forIn_eq_forIn_range', Std.Legacy.Range.size] 
  simp only [Sem.run_bind] at h0
  simpa using h0


end rules

end Go.Vc

namespace Go.Lx
open Go Go.Vc Go.Md


abbrev Heap := Nat → Option Obj

def Know (h : Heap) (w : World) (S : Nat → Prop) : Prop := ∀ b o, h b = some o → w.heap[b]? = some o ∧ ¬ S b

theorem Know.now {h : Heap} {w0 w : World} {S : Nat → Prop} (k : Know h w0 S) (hF : Fr ⟨w0, S⟩ w) (b : Nat) (o : Obj) (hb : h b = some o) : w.heap[b]? = some o := by
  obtain ⟨h1, h2⟩ := k b o hb
  have hlt : b < w0.heap.size := by
    rcases Nat.lt_or_ge b w0.heap.size with h | h
    · exact h
    · rw [Array.getElem?_eq_none h] at h1; cases h1
  have hn : ¬ (Cx.own ⟨w0, S⟩ b) := by
    rintro (h | h)
    · exact absurd h (by show ¬ w0.heap.size ≤ b; omega)
    · exact h2 h
  rw [hF.block b hn]
  exact h1

def RowH (h : Heap) (a : Option Addr) (sz : Nat) (xs : List (List Value)) : Prop :=
  xs = [] ∨ ∃ b off cs T m, a = some ⟨b, off, none⟩ ∧ h b = some (.cells cs T m) ∧ ∀ (i : Nat) (x : List Value), xs[i]? = some x → x.length = sz ∧ ∀ (j : Nat) (v : Value), x[j]? = some v → cs[off + i * sz + j]? = some v

theorem RowH.row {h : Heap} {w : World} {a : Option Addr} {sz : Nat} {xs : List (List Value)} (r : RowH h a sz xs) (k : ∀ b o, h b = some o → w.heap[b]? = some o) : Row w a sz xs := by
  rcases r with r | ⟨b, off, cs, T, m, ha, hb, r⟩
  · exact .inl r
  · refine .inr ⟨b, off, ha, fun i x hx => ⟨(r i x hx).1, fun j v hv => ?_⟩⟩
    have := (r i x hx).2 j v hv
    simp [World.cell?, k b _ hb, this]

structure FrS (h : Heap) (sz : Nat) (v : Value) (xs : List (List Value)) : Prop where
  out : ∃ a c, v = .slice a xs.length c ∧ xs.length ≤ c ∧ c ≤ 9223372036854775807 ∧ RowH h a sz xs

def sa : Value → Option Addr | .slice a _ _ => a | _ => none
def sc : Value → Nat | .slice _ _ c => c | _ => 0

theorem FrS.eq {h : Heap} {sz : Nat} {v : Value} {xs : List (List Value)} (f : FrS h sz v xs) : v = .slice (sa v) xs.length (sc v) := by
  obtain ⟨a, c, rfl, _⟩ := f.out; rfl
theorem FrS.len {h : Heap} {sz : Nat} {v : Value} {xs : List (List Value)} (f : FrS h sz v xs) : xs.length ≤ sc v ∧ sc v ≤ 9223372036854775807 := by
  obtain ⟨a, c, rfl, h1, h2, _⟩ := f.out; exact ⟨h1, h2⟩
theorem FrS.row {h : Heap} {sz : Nat} {v : Value} {xs : List (List Value)} (f : FrS h sz v xs) {w : World} (k : ∀ b o, h b = some o → w.heap[b]? = some o) : Row w (sa v) sz xs := by
  obtain ⟨a, c, rfl, _, _, r⟩ := f.out; exact r.row k

theorem FrS.nil (h : Heap) (sz : Nat) : FrS h sz (.slice none 0 0) [] := ⟨none, 0, rfl, by simp, by simp, .inl rfl⟩

theorem RowH.cut {h : Heap} {a : Option Addr} {sz : Nat} {xs : List (List Value)} (r : RowH h a sz xs) (l q m : Nat) (hq : l + q ≤ m) : RowH h (cutA a l m sz) sz ((xs.drop l).take q) := by
  rcases r with r | ⟨b, off, cs, T, m', rfl, hb, r⟩
  · subst r; exact .inl (by simp)
  · unfold cutA
    by_cases hm : m = l
    · have hq0 : q = 0 := by omega
      subst hq0
      exact .inl (by simp)
    · rw [if_neg hm]
      refine .inr ⟨b, off + l * sz, cs, T, m', by simp [Addr.add_lit], hb, fun i x hx => ?_⟩
      rw [List.getElem?_take] at hx
      split at hx
      · rw [List.getElem?_drop] at hx
        obtain ⟨h1, h2⟩ := r (l + i) x hx
        refine ⟨h1, fun j v hv => ?_⟩
        have := h2 j v hv
        rw [show off + l * sz + i * sz + j = off + (l + i) * sz + j from by rw [Nat.add_mul]; omega]
        exact this
      · cases hx

def cutV (sz : Nat) (v : Value) (l h : Int) : Value := .slice (cutA (sa v) l.toNat (sc v) sz) (h.toNat - l.toNat) (sc v - l.toNat)

theorem FrS.cut {α : Type} {h : Heap} {sz : Nat} {v : Value} {f : α → List Value} {xs ys : List α} {l q : Int} (s : FrS h sz v (xs.map f)) (e : gCut xs l q = some ys) : FrS h sz (cutV sz v l q) (ys.map f) := by
  obtain ⟨a, c, rfl, h1, h2, r⟩ := s.out
  obtain ⟨g0, g1, g2, rfl⟩ := gCut_some e
  have hl : ((xs.drop l.toNat).take (q.toNat - l.toNat)).length = q.toNat - l.toNat := by
    rw [List.length_take, List.length_drop]; omega
  simp only [List.length_map] at h1
  refine ⟨⟨cutA a l.toNat c sz, c - l.toNat, ?_, ?_, by omega, ?_⟩⟩
  · simp only [cutV, sa, sc, List.length_map, hl]
  · rw [List.length_map, hl]; omega
  · rw [List.map_take, List.map_drop]
    exact r.cut _ _ _ (by omega)

theorem FrS.mono {h h' : Heap} {sz : Nat} {v : Value} {xs : List (List Value)} (s : FrS h sz v xs) (le : ∀ b o, h b = some o → h' b = some o) : FrS h' sz v xs := by
  obtain ⟨a, c, rfl, h1, h2, r⟩ := s.out
  refine ⟨a, c, rfl, h1, h2, ?_⟩
  rcases r with r | ⟨b, off, cs, T, m, ha, hb, r⟩
  · exact .inl r
  · exact .inr ⟨b, off, cs, T, m, ha, le b _ hb, r⟩


section ops
variable {P : Program} {e : Env} {d : Option Nat} {ty : TypeId} {pos : String} {af : Array Edge} {g : Option (Nat × Bool)}

section bin
variable {X Y : Operand} {x y z : Int} {t t' : TypeId} {kd k2 : IntKind}

theorem r_addG (hx : ev e X = .int .i64 x) (hy : ev e Y = .int .i64 y) (h : gI (x + y) = some z) (w : World) :
    (execOp (ev e) ⟨d, .binOp .add t X Y t', ty, pos, af, g⟩).run P w = .ok (.value (.int .i64 z)) w := by
  obtain ⟨rfl, hb⟩ := gI_some h; exact r_add hx hy hb w
theorem r_subG (hx : ev e X = .int .i64 x) (hy : ev e Y = .int .i64 y) (h : gI (x - y) = some z) (w : World) :
    (execOp (ev e) ⟨d, .binOp .sub t X Y t', ty, pos, af, g⟩).run P w = .ok (.value (.int .i64 z)) w := by
  obtain ⟨rfl, hb⟩ := gI_some h; exact r_sub hx hy hb w
theorem r_mulG (hx : ev e X = .int .i64 x) (hy : ev e Y = .int .i64 y) (h : gI (x * y) = some z) (w : World) :
    (execOp (ev e) ⟨d, .binOp .mul t X Y t', ty, pos, af, g⟩).run P w = .ok (.value (.int .i64 z)) w := by
  obtain ⟨rfl, hb⟩ := gI_some h; exact r_mul hx hy hb w
end bin

theorem r_lenF {X : Operand} {t u sz : TypeId} {h : Heap} {v : Value} {xs : List (List Value)} {α : Type} {ys : List α} {f : α → List Value} (hu : P.underlying t = some (.slice u)) (hx : ev e X = v) (hs : FrS h sz v xs) (hxs : xs = ys.map f) (w : World) :
    (execOp (ev e) ⟨d, .call ⟨.builtin .len, #[X], #[t]⟩, ty, pos, af, g⟩).run P w = .ok (.value (.int .i64 ys.length)) w := by
  have := r_len (P := P) (d := d) (ty := ty) (pos := pos) (af := af) (g := g) hu (hx.trans hs.eq) w
  rw [this, hxs, List.length_map]

theorem r_indexF {X I : Operand} {t u sz : Nat} {h : Heap} {v : Value} {α : Type} {f : α → List Value} {xs : List α} {x : α} {k : IntKind} {i : Int} (hu : P.underlying t = some (.slice u)) (hs : ∀ w, (sizeOf u).run P w = .ok sz w)
    (hx : ev e X = v) (hi : ev e I = .int k i) (hf : FrS h sz v (xs.map f)) (hg : gAt xs i = some x) (w : World) :
    (execOp (ev e) ⟨d, .indexAddr t X I, ty, pos, af, g⟩).run P w = .ok (.value (ptrAt (sa v) (i.toNat * sz))) w := by
  obtain ⟨h0, h1, h2⟩ := gAt_some hg
  obtain ⟨a, c, rfl, _, _, r⟩ := hf.out
  have ha : ∃ b off, a = some ⟨b, off, none⟩ := by
    rcases r with r | ⟨b, off, cs, T, m, ha, _⟩
    · simp at r; subst r; simp at h1
    · exact ⟨b, off, ha⟩
  exact r_index hu hs hx hi ha h0 (by rw [List.length_map]; omega) w

theorem some_of_at {h : Heap} {sz : Nat} {v : Value} {α : Type} {f : α → List Value} {xs : List α} {x : α} {i : Int} (hf : FrS h sz v (xs.map f)) (hg : gAt xs i = some x) : ∃ b off, sa v = some ⟨b, off, none⟩ := by
  obtain ⟨h0, h1, h2⟩ := gAt_some hg
  obtain ⟨a, c, rfl, _, _, r⟩ := hf.out
  rcases r with r | ⟨b, off, cs, T, m, ha, _⟩
  · simp at r; subst r; simp at h1
  · exact ⟨b, off, ha⟩

theorem map_at {α : Type} {f : α → List Value} {xs : List α} {x : α} {i : Int} (hg : gAt xs i = some x) : (xs.map f)[i.toNat]? = some (f x) := by
  obtain ⟨h0, h1, h2⟩ := gAt_some hg
  rw [List.getElem?_map, h2]; rfl

theorem run_indexO {X I : Operand} {a : Option Addr} {m c : Nat} {t u sz sz' : Nat} {k : IntKind} {i : Int} {α : Type} {f : α → List Value} {xs : List α} {x : α} {w : World} (hu : P.underlying t = some (.slice u)) (hs : ∀ w, (sizeOf u).run P w = .ok sz w)
    (hx : ev e X = .slice a m c) (hi : ev e I = .int k i) (hR : Row w a sz' (xs.map f)) (hm : m = xs.length) (hg : gAt xs i = some x) :
    (execOp (ev e) ⟨d, .indexAddr t X I, ty, pos, af, g⟩).run P w = .ok (.value (ptrAt a (i.toNat * sz))) w := by
  obtain ⟨h0, h1, h2⟩ := gAt_some hg
  exact r_index hu hs hx hi (hR.some (i := i.toNat) (by simpa using h1)) h0 (by omega) w

theorem run_loadG1 {T k : Nat} {a : Option Addr} {A : Operand} {sz j : Nat} {α : Type} {f : α → List Value} {xs : List α} {x : α} {i : Int} {v : Value} {w : World} (hA : ∀ w, (isAgg T).run P w = .ok false w)
    (hp : ev e A = ptrAt a k) (hk : k = i.toNat * sz + j) (hr : Row w a sz (xs.map f)) (hg : gAt xs i = some x) (hv : rg (f x) j = some v) :
    (execOp (ev e) ⟨d, .load T A, ty, pos, af, g⟩).run P w = .ok (.value v) w :=
  run_loadP1 (i := i.toNat) (j := j) hA hp hk hr (map_at hg) hv

theorem run_loadGN {T k m : Nat} {a : Option Addr} {A : Operand} {sz j : Nat} {α : Type} {f : α → List Value} {xs : List α} {x : α} {i : Int} {vs : List Value} {w : World} (hA : ∀ w, (isAgg T).run P w = .ok true w) (hs : ∀ w, (sizeOf T).run P w = .ok m w)
    (hp : ev e A = ptrAt a k) (hk : k = i.toNat * sz + j) (hr : Row w a sz (xs.map f)) (hg : gAt xs i = some x) (hv : rd (f x) j m = some vs) :
    (execOp (ev e) ⟨d, .load T A, ty, pos, af, g⟩).run P w = .ok (.value (.agg vs.toArray)) w :=
  run_loadPN (i := i.toNat) (j := j) hA hs hp hk hr (map_at hg) hv


end ops


section rules
variable {P : Program} {n : Nat} {cx : Cx} {Q : Post} {e : Env} {L : List Chunk} {ops : Array Oper} {F : Env → List Chunk → Prop} {rest : List Oper} {ss : List Kd}

structure RoundA {σ τ : Type} (cx : Cx) (st : σ → τ → List (Nat × Value)) (hp : σ → τ → List Chunk) (I : σ → τ → Nat → Prop) (m : Nat) (e : Env) (w : World) : Prop where
  out : ∃ s t k, Agree e (st s t) ∧ Fr cx w ∧ Sat cx w (hp s t) ∧ I s t k ∧ k < m

theorem c_fix {σ τ ρ : Type} {c : Code} {r : ρ} (B : (σ → Option ρ) → σ → Option ρ) (st : σ → τ → List (Nat × Value)) (hp : σ → τ → List Chunk) (G : σ → τ → Prop) (s0 : σ) (t0 : τ) (sel : List Nat)
    (H : fix B s0 = some r) (hG : G s0 t0) (hst : Agree e (st s0 t0)) (hnd : sel.Nodup) (hL : sel.map (fun i => L[i]?) = (hp s0 t0).map some)
    (round : ∀ (s : σ) (t : τ) (m : Nat) (g : Env), B (it B m) s = some r → G s t →
      At cx (WC P n c (ThenQ (RoundA cx st hp (fun s t k => it B k s = some r ∧ G s t) (m + 1)) Q)) (mkE (st s t) g) (hp s t)) :
    At cx (WC P n (.loop c) Q) e L :=
  ⟨fun w hF hS => ⟨fun a ha => by
    obtain ⟨m0, hm0⟩ := fix_it H
    refine wp_loop_ghost (fun m a' w' => ∃ e' s t, Sim n a' e' ∧ Agree e' (st s t) ∧ Fr cx w' ∧ Sat cx w' (hp s t) ∧ it B m s = some r ∧ G s t) m0 ⟨e, s0, t0, ha, hst, hF, hS.select sel hnd hL, hm0, hG⟩ ?_
    rintro m a w ⟨e', s, t, ha, hst, hF, hS, hI, hg⟩
    cases m with
    | zero => cases hI
    | succ m =>
      have hr := ((round s t m e' hI hg).out w hF hS).out a (by rw [mkE_self e' _ hst]; exact ha)
      refine wp_mono hr ?_
      rintro x a' w' ⟨e'', hs', hq⟩
      cases x with
      | normal =>
        obtain ⟨s', t', m', h1, h3, h4, ⟨h5, h7⟩, h6⟩ := hq.out
        exact ⟨m', h6, e'', s', t', hs', h1, h3, h4, h5, h7⟩
      | exit i => exact ⟨e'', hs', hq⟩
      | goto i => exact ⟨e'', hs', hq⟩
      | ret => exact ⟨e'', hs', hq⟩
      | panic i => exact ⟨e'', hs', hq⟩
      | outgrown => exact ⟨e'', hs', hq⟩⟩⟩

theorem c_close {σ τ : Type} {st : σ → τ → List (Nat × Value)} {hp : σ → τ → List Chunk} {I : σ → τ → Nat → Prop} {m : Nat} (s : σ) (t : τ) (k : Nat) (sel : List Nat) (hst : Agree e (st s t)) (hnd : sel.Nodup) (hL : sel.map (fun i => L[i]?) = (hp s t).map some) (hI : I s t k) (hm : k < m) :
    At cx (RoundA cx st hp I m) e L :=
  ⟨fun _ hF hS => ⟨s, t, k, hst, hF, hS.select sel hnd hL, hI, hm⟩⟩

theorem c_meet {σ τ ρ : Type} {x y : Code} {r : ρ} (J : σ → Option ρ) (st : σ → τ → List (Nat × Value)) (hp : σ → τ → List Chunk) (G : σ → τ → Prop)
    (h1 : At cx (WC P n x (ThenQ (RoundA cx st hp (fun s t _ => J s = some r ∧ G s t) 1) Q)) e L)
    (h2 : ∀ (s : σ) (t : τ) (g : Env), J s = some r → G s t → At cx (WC P n y Q) (mkE (st s t) g) (hp s t)) : At cx (WC P n (.seq x y) Q) e L :=
  c_seq ⟨fun w hF hS => ⟨fun a ha => Code.wp_mono (fun x' a' w' hq => by
    obtain ⟨e', hs, hq⟩ := hq
    cases x' with
    | normal =>
      obtain ⟨s, t, m, g1, g3, g4, ⟨g5, g7⟩, _⟩ := hq.out
      exact ⟨e', hs, by
        have := (h2 s t e' g5 g7).out w' g3 g4
        rwa [mkE_self e' _ g1] at this⟩
    | exit i => exact ⟨e', hs, hq⟩
    | goto i => exact ⟨e', hs, hq⟩
    | ret => exact ⟨e', hs, hq⟩
    | panic i => exact ⟨e', hs, hq⟩
    | outgrown => exact ⟨e', hs, hq⟩) ((h1.out w hF hS).out a ha)⟩⟩

theorem c_tidyF {K : Env → World → Prop} {l : List (Nat × Value)} {h : Env} (l' : List (Nat × Value)) (L' : List Chunk) (h1 : l = l') (h2 : L = L') (k : At cx K (mkE l' h) L') : At cx K (mkE l h) L := by
  subst h1 h2; exact k


theorem know_all (w : World) : Know (fun b => w.heap[b]?) w noS := fun b o h => ⟨h, fun x => x⟩

theorem frs_own {α : Type} {w : World} {i E sz n : Nat} {p : Option Addr × Nat} {xs : List α} {f : α → List Value} (hn : n = xs.length) (hS : Sat cx w L) (hL : L[i]? = some (rowV E sz (.slice p.1 n p.2) n (xs.map f))) : FrS (fun b => w.heap[b]?) sz (.slice p.1 n p.2) (xs.map f) := by
  subst hn
  obtain ⟨S, ⟨⟨h1, h2, h3⟩, _⟩, _⟩ := hS.at hL
  have hr := ownsRow_Row h1 h2 h3
  rcases h1.2 with ⟨hv, h0⟩ | ⟨g, cap, cur, hv, _, hh, hnc, hm, hcs, ht⟩
  · simp only [Value.slice.injEq] at hv
    have hxs : xs = [] := List.eq_nil_of_length_eq_zero h0
    subst hxs
    refine ⟨⟨p.1, p.2, by simp, by simp, by omega, .inl (by simp)⟩⟩
  · simp only [Value.slice.injEq] at hv
    obtain ⟨hp, _, hc⟩ := hv
    refine ⟨⟨p.1, p.2, by simp, by rw [List.length_map, hc]; exact hnc, by rw [hc]; simpa [maxLen] using hm, ?_⟩⟩
    rcases hr with hr | ⟨b, off, ha, hr⟩
    · exact .inl hr
    · rw [hp] at ha
      simp only [Option.some.injEq, Addr.mk.injEq] at ha
      obtain ⟨rfl, rfl, _⟩ := ha
      refine .inr ⟨g, 0, cur, E, _, hp, hh, fun i x hx => ⟨(hr i x hx).1, fun j v hv => ?_⟩⟩
      have := (hr i x hx).2 j v hv
      simpa [World.cell?, hh] using this

theorem frs_box {α : Type} {w : World} {i b m T sz : Nat} {cs : List Value} {xs : List α} {f : α → List Value} (hS : Sat cx w L) (hL : L[i]? = some (cellsC b cs T)) (hcs : (xs.map f).flatten = cs) (hl : ((xs.map f).all fun x => Nat.beq x.length sz) = true) (hm : xs.length = m) (hm' : Nat.ble m 9223372036854775807 = true) :
    FrS (fun b => w.heap[b]?) sz (.slice (some ⟨b, 0, none⟩) m m) (xs.map f) := by
  subst hm
  refine ⟨⟨some ⟨b, 0, none⟩, xs.length, by simp, by simp, by simpa using hm', .inr ⟨b, 0, cs.toArray, T, (0, 0), rfl, sat_cell hS hL, fun i x hx => ⟨?_, fun j v hv => ?_⟩⟩⟩⟩
  · have := List.all_eq_true.1 hl x (List.mem_of_getElem? hx)
    simpa using this
  · have := row_get _ i x hl hx j v hv
    rw [hcs] at this
    simpa using this

end rules
end Go.Lx

namespace Go.Lx
open Go Go.Vc Go.Md

theorem wr_u64 (x : Int) : IntKind.u64.wrap x = wU64 x := by simp [IntKind.wrap, IntKind.bits, IntKind.signed, wU64]
theorem wr_i64 (x : Int) : IntKind.i64.wrap x = wI64 x := by simp [IntKind.wrap, IntKind.bits, IntKind.signed, wI64]

section ops
variable {P : Program} {e : Env} {d : Option Nat} {ty : TypeId} {pos : String} {af : Array Edge} {g : Option (Nat × Bool)}

section bin
variable {X Y : Operand} {x y z u : Int} {t t' : TypeId} {kd k2 : IntKind} {bits : Nat}

theorem r_bin2 {op : BinOp} {v : Value} (hx : ev e X = .int kd x) (hy : ev e Y = .int k2 y) (hg : ∀ w, (eqGuard op t X Y (.int kd x) (.int k2 y)).run P w = .ok () w)
    (hr : ∀ w, (binOp op t (.int kd x) (.int k2 y)).run P w = .ok v w) (w : World) :
    (execOp (ev e) ⟨d, .binOp op t X Y t', ty, pos, af, g⟩).run P w = .ok (.value v) w := by
  simp [execOp, hx, hy, hg, hr]

theorem r_shrG (hx : ev e X = .int kd x) (hy : ev e Y = .int k2 y) (hbits : kd.bits = bits) (h : gShr bits x y = some z) (w : World) :
    (execOp (ev e) ⟨d, .binOp .shr t X Y t', ty, pos, af, g⟩).run P w = .ok (.value (.int kd z)) w := by
  subst hbits
  unfold gShr at h; split at h
  · cases h
    refine r_bin2 hx hy (fun w => rfl) (fun w => ?_) w
    have hf : x.fdiv (2 ^ min y.toNat kd.bits) = x / 2 ^ min y.toNat kd.bits := Int.fdiv_eq_ediv_of_nonneg _ (Int.pow_nonneg (by omega))
    have hn : ¬ y < 0 := by omega
    rw [show binOp .shr t (.int kd x) (.int k2 y) = Op.shift .shr kd x k2 y from rfl]
    unfold Op.shift
    rw [if_neg hn]
    simp only [hf, Sem.run_pure]
  · cases h

end bin

theorem r_convG {X : Operand} {s t : TypeId} {k0 k1 : IntKind} {x y : Int} {su : TypeDesc} (hs : ∀ w, (underlying s).run P w = .ok su w) (ht : ∀ w, (underlying t).run P w = .ok (.int k1) w)
    (hx : ev e X = .int k0 x) (hr : k1.wrap x = y) (w : World) :
    (execOp (ev e) ⟨d, .convert s t X, ty, pos, af, g⟩).run P w = .ok (.value (.int k1 y)) w := by
  subst hr
  simp [execOp, hx, convert, hs, ht, Conv.intToInt]


theorem r_indexAG {t u len : Nat} {X I : Operand} {cs : List Value} {k : IntKind} {i : Int} {q : Nat} {f : Nat → Value} (hu : ∀ w, (underlying t).run P w = .ok (.array len u) w) (hA : ∀ w, (isAgg u).run P w = .ok false w) (hs : ∀ w, (sizeOf u).run P w = .ok 1 w)
    (hx : ev e X = .agg cs.toArray) (hi : ev e I = .int k i) (hcs : (List.range len).map f = cs) (h : gIx len i = some q) (w : World) :
    (execOp (ev e) ⟨d, .index t X I, ty, pos, af, g⟩).run P w = .ok (.value (f q)) w := by
  obtain ⟨h0, h1, rfl⟩ := gIx_some h
  subst hcs
  refine r_indexA hu hA hs hx hi h0 h1 ?_ w
  simp [show i.toNat < len by omega]

theorem flat_range {f : Nat → List Value} {sz : Nat} (hf : ∀ j, (f j).length = sz) : ∀ (n i : Nat), i < n → ((List.range n).flatMap f).length = n * sz ∧ (((List.range n).flatMap f).drop (i * sz)).take sz = f i := by
  intro n
  induction n with
  | zero => intro i h; omega
  | succ n ih =>
    intro i hi
    rw [List.range_succ, List.flatMap_append, List.flatMap_singleton]
    have hl : ((List.range n).flatMap f).length = n * sz := by
      cases n with
      | zero => simp
      | succ n => exact (ih 0 (by omega)).1
    refine ⟨by rw [List.length_append, hl, hf, Nat.succ_mul], ?_⟩
    rcases Nat.lt_or_ge i n with h | h
    · have hle : (i + 1) * sz ≤ n * sz := Nat.mul_le_mul_right _ h
      rw [Nat.succ_mul] at hle
      rw [List.drop_append_of_le_length (by omega), List.take_append_of_le_length (by rw [List.length_drop]; omega)]
      exact (ih i h).2
    · have : i = n := by omega
      subst this
      rw [← hl, List.drop_left, List.take_of_length_le (by rw [hf]; omega)]

theorem r_indexPG {t u len sz b o : Nat} {X I : Operand} {k : IntKind} {i : Int} {q : Nat} (hu : ∀ w, (underlying t).run P w = .ok (.array len u) w) (hs : ∀ w, (sizeOf u).run P w = .ok sz w)
    (hx : ev e X = .pointer (some ⟨b, o, none⟩)) (hi : ev e I = .int k i) (h : gIx len i = some q) (w : World) :
    (execOp (ev e) ⟨d, .indexAddr t X I, ty, pos, af, g⟩).run P w = .ok (.value (.pointer (some ⟨b, o + q * sz, none⟩))) w := by
  obtain ⟨h0, h1, rfl⟩ := gIx_some h
  exact r_indexPA hu hs hx hi h0 h1 w

theorem rg_arr {pre post cs : List Value} {f : Nat → List Value} {n sz q o k : Nat} {v : Value} (hcs : cs = pre ++ ((List.range n).flatMap f ++ post)) (ho : pre.length = o) (hf : ∀ j, (f j).length = sz) (hk : k < n) (hv : rg (f k) q = some v) : rg cs (o + k * sz + q) = some v := by
  subst hcs ho
  obtain ⟨hl, ht⟩ := flat_range hf n k hk
  rw [rg_eq] at hv ⊢
  have hq : q < sz := by
    rcases Nat.lt_or_ge q sz with h | h
    · exact h
    · rw [List.getElem?_eq_none (by rw [hf]; exact h)] at hv; cases hv
  have hle : k * sz + sz ≤ n * sz := by rw [← Nat.succ_mul]; exact Nat.mul_le_mul_right _ (by omega)
  rw [Nat.add_assoc, List.getElem?_append_right (by omega), Nat.add_sub_cancel_left, List.getElem?_append_left (by omega), ← hv, ← ht, List.getElem?_take, if_pos hq, List.getElem?_drop]

theorem r_sliceLF {α : Type} {h : Heap} {f : α → List Value} {X A : Operand} {v : Value} {xs ys : List α} {t u sz : Nat} {ka : IntKind} {l : Int} (hu : P.underlying t = some (.slice u)) (hs : ∀ w, (sizeOf u).run P w = .ok sz w)
    (hx : ev e X = v) (ha : ev e A = .int ka l) (s : FrS h sz v (xs.map f)) (hg : gCut xs l xs.length = some ys) (w : World) :
    (execOp (ev e) ⟨d, .slice t X (some A) none none, ty, pos, af, g⟩).run P w = .ok (.value (cutV sz v l xs.length)) w := by
  obtain ⟨g0, g1, g2, _⟩ := gCut_some hg
  rw [r_sliceL hu hs (hx.trans s.eq) ha g0 (by rw [List.length_map]; exact g1) w, cutV, List.length_map]; rfl

end ops


section rules
variable {P : Program} {n : Nat} {cx : Cx} {Q : Post} {e : Env} {L : List Chunk} {ops : Array Oper} {F : Env → List Chunk → Prop} {rest : List Oper} {ss : List Kd}
variable {d : Nat} {ty : TypeId} {pos : String} {af : Array Edge} {g : Option (Nat × Bool)}


def bothC (C D : Chunk) : Chunk where
  P S w := ∃ S1 S2 : Nat → Prop, C.P S1 w ∧ D.P S2 w ∧ (∀ b, S1 b → S b) ∧ (∀ b, S2 b → S b) ∧ ∀ b, S1 b → ¬ S2 b
  loc S w w' h := by
    rintro ⟨S1, S2, h1, h2, h3, h4, h5⟩
    exact ⟨S1, S2, C.loc _ _ _ (fun b hb => h b (h3 b hb)) h1, D.loc _ _ _ (fun b hb => h b (h4 b hb)) h2, h3, h4, h5⟩

theorem c_split {K : Env → World → Prop} (i : Nat) {C D : Chunk} (hL : L[i]? = some (bothC C D)) (k : At cx K e (L.set i C ++ [D])) : At cx K e L :=
  ⟨fun w hF hS => k.out w hF (by
    obtain ⟨fp, h1, h2, h3⟩ := hS.out
    obtain ⟨S1, S2, k1, k2, k3, k4, k5⟩ := h1 i _ hL
    have hil : i < L.length := by
      rcases Nat.lt_or_ge i L.length with h | h
      · exact h
      · simp [List.getElem?_eq_none h] at hL
    refine ⟨fun j b => if j = i then S1 b else if j = L.length then S2 b else fp j b, ?_, ?_, ?_⟩
    · intro j c hc
      by_cases hj : j = L.length
      · subst hj
        rw [List.getElem?_append_right (by simp)] at hc
        simp at hc
        subst hc
        have : ¬ L.length = i := by omega
        simpa [this] using k2
      · have hjl : j < L.length := by
          rcases Nat.lt_or_ge j L.length with h | h
          · exact h
          · rw [List.getElem?_append_right (by simpa using h)] at hc
            rw [List.getElem?_eq_none (by simp; omega)] at hc
            cases hc
        rw [List.getElem?_append_left (by simpa using hjl)] at hc
        by_cases hji : j = i
        · subst hji
          rw [List.getElem?_set_self hil] at hc
          cases hc
          simpa using k1
        · rw [List.getElem?_set_ne (fun h => hji h.symm)] at hc
          simpa [hji, hj] using h1 j c hc
    · intro j b hb
      by_cases hji : j = i
      · simp only [hji, if_true] at hb
        have := h2 i b (k3 b hb)
        exact ⟨by simp; omega, this.2⟩
      · by_cases hj : j = L.length
        · subst hj
          have hne : ¬ L.length = i := by omega
          simp only [hne, if_true, if_false] at hb
          exact ⟨by simp, (h2 i b (k4 b hb)).2⟩
        · simp only [hji, hj, if_false] at hb
          obtain ⟨a1, a2⟩ := h2 j b hb
          exact ⟨by simp; omega, a2⟩
    · intro j q b hj hq
      have key : ∀ j, (if j = i then S1 b else if j = L.length then S2 b else fp j b) → (j = i ∧ S1 b) ∨ (j = L.length ∧ j ≠ i ∧ S2 b) ∨ (j ≠ i ∧ j ≠ L.length ∧ fp j b) := by
        intro j h
        by_cases hji : j = i
        · simp only [hji, if_true] at h; exact .inl ⟨hji, h⟩
        · by_cases hjl : j = L.length
          · simp only [hji, hjl, if_true, if_false] at h
            have hne : ¬ L.length = i := by omega
            simp only [hne, if_false] at h
            exact .inr (.inl ⟨hjl, hji, h⟩)
          · simp only [hji, hjl, if_false] at h; exact .inr (.inr ⟨hji, hjl, h⟩)
      rcases key j hj with ⟨a1, a2⟩ | ⟨a1, a0, a2⟩ | ⟨a1, a3, a2⟩ <;> rcases key q hq with ⟨c1, c2⟩ | ⟨c1, c0, c2⟩ | ⟨c1, c3, c2⟩
      · omega
      · exact absurd c2 (k5 b a2)
      · exact absurd (h3 i q b (k3 b a2) c2) (fun h => c1 h.symm)
      · exact absurd a2 (k5 b c2)
      · omega
      · exact absurd (h3 i q b (k4 b a2) c2) (fun h => c1 h.symm)
      · exact absurd (h3 i j b (k3 b c2) a2) (fun h => a1 h.symm)
      · exact absurd (h3 i j b (k4 b c2) a2) (fun h => a1 h.symm)
      · exact h3 j q b a2 c2)⟩

theorem c_both {K : Env → World → Prop} (i j : Nat) {C D : Chunk} (hi : L[i]? = some C) (hj : L[j]? = some D) (hne : i ≠ j) (k : At cx K e ((L.set i (bothC C D)).set j empC)) : At cx K e L :=
  ⟨fun w hF hS => k.out w hF (by
    obtain ⟨fp, h1, h2, h3⟩ := hS.out
    have hil : i < L.length := by
      rcases Nat.lt_or_ge i L.length with h | h
      · exact h
      · simp [List.getElem?_eq_none h] at hi
    have hjl : j < L.length := by
      rcases Nat.lt_or_ge j L.length with h | h
      · exact h
      · simp [List.getElem?_eq_none h] at hj
    refine ⟨fun q b => if q = i then fp i b ∨ fp j b else if q = j then False else fp q b, ?_, ?_, ?_⟩
    · intro q c hc
      by_cases hqj : q = j
      · subst hqj
        rw [List.getElem?_set_self (by simpa using hjl)] at hc
        cases hc
        have : ¬ q = i := fun h => hne h.symm
        simp only [this, if_true, if_false]
        exact fun b h => h
      · rw [List.getElem?_set_ne (fun h => hqj h.symm)] at hc
        by_cases hqi : q = i
        · subst hqi
          rw [List.getElem?_set_self hil] at hc
          cases hc
          simp only [if_true]
          exact ⟨fp q, fp j, h1 q C hi, h1 j D hj, fun b h => .inl h, fun b h => .inr h, fun b a c => hne (h3 q j b a c)⟩
        · rw [List.getElem?_set_ne (fun h => hqi h.symm)] at hc
          simp only [hqi, hqj, if_false]
          exact h1 q c hc
    · intro q b hb
      by_cases hqi : q = i
      · simp only [hqi, if_true] at hb
        refine ⟨by simp [hqi, hil], ?_⟩
        rcases hb with hb | hb
        · exact (h2 i b hb).2
        · exact (h2 j b hb).2
      · by_cases hqj : q = j
        · have hji : ¬ j = i := fun h => hne h.symm
          simp only [hqj, hji, if_true, if_false] at hb
        · simp only [hqi, hqj, if_false] at hb
          obtain ⟨a1, a2⟩ := h2 q b hb
          exact ⟨by simpa using a1, a2⟩
    · intro p q b hp hq
      have key : ∀ q, (if q = i then fp i b ∨ fp j b else if q = j then False else fp q b) → (q = i ∧ (fp i b ∨ fp j b)) ∨ (q ≠ i ∧ q ≠ j ∧ fp q b) := by
        intro q h
        by_cases hqi : q = i
        · simp only [hqi, if_true] at h; exact .inl ⟨hqi, h⟩
        · by_cases hqj : q = j
          · have hji : ¬ j = i := fun h => hne h.symm
            simp only [hqj, hji, if_true, if_false] at h
          · simp only [hqi, hqj, if_false] at h; exact .inr ⟨hqi, hqj, h⟩
      rcases key p hp with ⟨a1, a2⟩ | ⟨a1, a3, a2⟩ <;> rcases key q hq with ⟨c1, c2⟩ | ⟨c1, c3, c2⟩
      · omega
      · rcases a2 with a2 | a2
        · exact absurd (h3 i q b a2 c2) (fun h => c1 h.symm)
        · exact absurd (h3 j q b a2 c2) (fun h => c3 h.symm)
      · rcases c2 with c2 | c2
        · exact absurd (h3 i p b c2 a2) (fun h => a1 h.symm)
        · exact absurd (h3 j p b c2 a2) (fun h => a3 h.symm)
      · exact h3 p q b a2 c2)⟩


def roV (sz : Nat) (v : Value) (n : Nat) (xs : List (List Value)) : Chunk where
  P S w := n = xs.length ∧ FrS (fun b => w.heap[b]?) sz v xs ∧ ∀ b, v.ownBlock = some b → S b
  loc S w w' h := by
    rintro ⟨h1, h2, h3⟩
    refine ⟨h1, ?_, h3⟩
    obtain ⟨a, c, rfl, g1, g2, r⟩ := h2.out
    refine ⟨a, c, rfl, g1, g2, ?_⟩
    rcases r with r | ⟨b, off, cs, T, m, rfl, hb, r⟩
    · exact .inl r
    · exact .inr ⟨b, off, cs, T, m, rfl, (h b (h3 b rfl)).trans hb, r⟩

theorem row_FrS {w : World} {E sz : Nat} {v : Value} {n : Nat} {xs : List (List Value)} (h : w.ownsRow 0 E sz v n xs.flatten) (hn : xs.length = n) (hl : ∀ x ∈ xs, x.length = sz) : FrS (fun b => w.heap[b]?) sz v xs := by
  rcases h.2 with ⟨rfl, h0⟩ | ⟨g, cap, cur, rfl, _, hh, hnc, hm, hcs, ht⟩
  · have : xs = [] := List.eq_nil_of_length_eq_zero (hn.trans h0)
    subst this
    exact ⟨none, 0, by simp, by simp, by simp, .inl rfl⟩
  · subst hn
    have hr := ownsRow_Row h rfl hl
    refine ⟨some ⟨g, 0, none⟩, cap, rfl, hnc, by simpa [maxLen] using hm, ?_⟩
    rcases hr with hr | ⟨b, off, ha, hr⟩
    · exact .inl hr
    · simp only [Option.some.injEq, Addr.mk.injEq] at ha
      obtain ⟨rfl, rfl, _⟩ := ha
      refine .inr ⟨g, 0, cur, E, _, rfl, hh, fun i x hx => ⟨(hr i x hx).1, fun j v hv => ?_⟩⟩
      have := (hr i x hx).2 j v hv
      simpa [World.cell?, hh] using this

theorem row_ro (E sz : Nat) (v : Value) (n : Nat) (xs : List (List Value)) : Imp (rowV E sz v n xs) (roV sz v n xs) := ⟨fun S w ⟨⟨h1, h2, h3⟩, h4⟩ => ⟨h2.symm, row_FrS h1 h2 h3, h4⟩⟩

theorem imp_clipO (E sz : Nat) (a : Option Addr) (n c : Nat) (xs : List (List Value)) : Imp (rowV E sz (.slice a n c) n xs) (roV sz (.slice (cutA a 0 n sz) n n) n xs) := ⟨fun S w ⟨⟨h1, h2, h3⟩, h4⟩ => by
  have hf := row_FrS h1 h2 h3
  subst h2
  obtain ⟨a', c', hv, g1, g2, r⟩ := hf.out
  simp only [Value.slice.injEq] at hv
  obtain ⟨rfl, _, rfl⟩ := hv
  refine ⟨rfl, ⟨_, _, rfl, Nat.le_refl _, by omega, ?_⟩, fun b hb => h4 b ?_⟩
  · have := r.cut 0 xs.length xs.length (by omega)
    rwa [List.drop_zero, List.take_of_length_le (Nat.le_refl _)] at this
  · rw [own_cut (y := xs.length)] at hb; rw [← hb]; cases a <;> rfl⟩

theorem roOf {w : World} {i sz n c : Nat} {a : Option Addr} {xs : List (List Value)} (hS : Sat cx w L) (hL : L[i]? = some (roV sz (.slice a n c) n xs)) : Row w a sz xs := by
  obtain ⟨S, ⟨_, h2, _⟩, _⟩ := hS.at hL
  obtain ⟨a', c', h0, _, _, r⟩ := h2.out
  simp only [Value.slice.injEq] at h0
  obtain ⟨rfl, _, rfl⟩ := h0
  exact r.row fun b o h => h

theorem ret0 {fn : Func} {R : Value → World → Prop} (hr : fn.results = #[]) (k : ∀ w, Fr cx w → Sat cx w L → R (.tuple #[]) w) : At cx (BodyQ P fn R .ret) e L :=
  ⟨fun w hF hS tmps hs => ⟨.tuple #[], by simp [results, hr], k w hF hS⟩⟩
theorem ret0n {fn : Func} {R : Value → World → Prop} (hr : fn.results = #[]) (k : ∀ w, Fr cx w → Sat cx w L → R (.tuple #[]) w) : At cx (BodyQ P fn R .normal) e L :=
  ⟨fun w hF hS tmps hs => ⟨.tuple #[], by simp [results, hr], k w hF hS⟩⟩

theorem makes_makeG {α : Type} {N C : Operand} {t E : TypeId} {I : TypeInfo} {z : Value} {sz by_ : Nat} {m : Int} {rds : List Nat} {f : α → List Value} {zz : α} {xs : List α} (ht : P.underlying t = some (.slice E)) (hi : P.info? E = some I) (hz : I.zero = some z) (hsize : I.size = sz) (hby : I.bytes = by_)
    (hzs : z.cells.toList = f zz) (hsz : Nat.blt 0 sz = true) (hl : (f zz).length = sz) (hnc : ev e N = .int .i64 m ∧ ev e C = .int .i64 m) (hg : gMake by_ m zz = some xs) :
    Makes P cx e ⟨some d, .makeSlice t N C, ty, pos, af, g⟩ L rds (fun p : Option Addr × Nat => .slice p.1 xs.length p.2) (fun p => rowV E sz (.slice p.1 xs.length p.2) xs.length (xs.map f)) := by
  obtain ⟨h0, hn, hb, rfl⟩ := gMake_some hg
  obtain ⟨k, rfl⟩ := Int.eq_ofNat_of_zero_le h0
  rw [Int.toNat_natCast] at *
  rw [List.length_replicate, List.map_replicate]
  exact makes_makeSlice (m := k) (c := k) ht hi hz hsize hby (by rw [hzs, hl]) hsz hnc.1 hnc.2 rfl (by omega) (by omega) (by rw [hzs])

theorem run_append_none_cap {w : World} {base : Nat} (t ty e : TypeId) (i : TypeInfo) (size : Nat) (ht : P.underlying t = some (.slice e)) (hi : P.info? e = some i)
    (v : Value) (n : Nat) (xs : List Value) (c : Nat) (hown : w.ownsRow base e size v n xs) :
    (Builtin.append_ #[t, t] ty #[v, .slice none 0 c]).run P w = .ok v w := by
  rcases hown.2 with ⟨rfl, rfl⟩ | ⟨g, cap, cur, rfl, _, _, hnc, _⟩
  · simp [Builtin.append_, run_underlying ht, sizeOf, typeInfo, hi, Builtin.lenOf, Builtin.firstCells]
  · simp [Builtin.append_, run_underlying ht, sizeOf, typeInfo, hi, Builtin.lenOf, Builtin.firstCells, hnc, storeCells]

theorem turns_appG {α : Type} {f : α → List Value} {ys ls zs : List α} {i : Nat} {S X : Operand} {t E : TypeId} {I : TypeInfo} {z : Value} {sz by_ : Nat} {p : Option Addr × Nat} {rds : List Nat} {V : Value} {a : Option Addr} {c m q : Nat} (hn : m = ys.length)
    (ht : P.underlying t = some (.slice E)) (hi : P.info? E = some I) (hz : I.zero = some z) (hsize : I.size = sz) (hby : I.bytes = by_) (hzs : z.cells.size = sz) (hsz : Nat.blt 0 sz = true)
    (hL : L[i]? = some (rowV E sz (.slice p.1 m p.2) m (ys.map f))) (hs : ev e S = .slice p.1 m p.2) (hx : ev e X = V) (hV : V = .slice a q c) (hq : q = ls.length)
    (hnews : ∀ w L', Fr cx w → Sat cx w L' → (∀ j, j ∈ rds → L'[j]? = L[j]?) → Row w a sz (ls.map f)) (hf : ∀ x, (f x).length = sz) (h1 : ∀ x, (f x).all Value.oneCell' = true) (hg : gApp by_ ys ls = some zs) :
    Turns P cx e ⟨some d, .call ⟨.builtin .append, #[S, X], #[t, t]⟩, ty, pos, af, g⟩ L i rds (fun p' : Option Addr × Nat => .slice p'.1 zs.length p'.2) (fun p' => rowV E sz (.slice p'.1 zs.length p'.2) zs.length (zs.map f)) := by
  subst hn hq
  obtain ⟨rfl, hb1, hb2⟩ := gApp_some hg
  rw [List.length_append]
  cases ha : a with
  | some ad =>
    subst ha
    exact turns_append (ad := ad) ht hi hz hsize hby hzs hsz hL hs (hx.trans hV) (by rw [List.length_map]) (fun x hx => by
      obtain ⟨y, _, rfl⟩ := List.mem_map.1 hx; exact hf y) hnews (fun x hx u hu => by
      obtain ⟨y, _, rfl⟩ := List.mem_map.1 hx; exact List.all_eq_true.1 (h1 y) u hu) (by rw [List.map_append]) rfl (by omega) hb2
  | none =>
    subst ha
    intro w L' hF hS hl hi'
    have hr := hnews w L' hF hS fun j hj => hi' j (.inl hj)
    have hls : ls = [] := by
      rcases hr with h | ⟨b, off, h, _⟩
      · simpa using h
      · cases h
    subst hls
    have hL' := (hi' i (.inr rfl)).trans hL
    obtain ⟨S0, ⟨⟨ho, _⟩, _⟩, _⟩ := hS.at hL'
    have he : (execOp (ev e) ⟨some d, .call ⟨.builtin .append, #[S, X], #[t, t]⟩, ty, pos, af, g⟩).run P w = .ok (.value (.slice p.1 ys.length p.2)) w := by
      simp only [execOp, resolve, invoke, builtin, Sem.run_bind, Sem.run_pure, Result.andThen_ok, List.map_toArray, List.map_cons, List.map_nil, hs, hx, hV, List.length_nil, run_append_none_cap t ty E I sz ht hi _ _ _ c ho]
    unfold RunsTo
    rw [he]
    refine ⟨p, by simp, hF, ?_⟩
    have : L'.set i (rowV E sz (.slice p.1 (ys.length + 0) p.2) (ys.length + 0) ((ys ++ []).map f)) = L' := by
      rw [List.append_nil, Nat.add_zero]
      refine List.ext_getElem? fun j => ?_
      rw [List.getElem?_set]
      split
      · rename_i h; subst h
        split
        · exact hL'.symm
        · rename_i h; rw [List.getElem?_eq_none (by omega)]
      · rfl
    show Sat cx w (L'.set i (rowV E sz (.slice p.1 (ys.length + ([] : List α).length) p.2) (ys.length + ([] : List α).length) ((ys ++ []).map f)))
    rw [List.length_nil, this]
    exact hS

end rules
end Go.Lx

namespace Go.Lx
open Go Go.Vc Go.Md

theorem grown_by (w : World) (o : Obj) (row : Option Nat) : w.grownBy (w.drew.alloc o) row := ⟨rfl, rfl, rfl, by simp, fun k hk _ => (by first | exact heap_alloc_old w.drew _ k hk | exact heap_alloc_old w.drew _ hk)⟩


def apC (w : World) (E sz : Nat) (v : Value) (n : Nat) (xs : List (List Value)) : Prop :=
  (w.ownsRow 0 E sz v n xs.flatten ∨ (FrS (fun b => w.heap[b]?) sz v xs ∧ ∃ b o, v = .slice (some ⟨b, 0, none⟩) n n ∧ w.heap[b]? = some o)) ∧ xs.length = n ∧ ∀ x ∈ xs, x.length = sz

theorem apC.frs {w : World} {E sz : Nat} {v : Value} {n : Nat} {xs : List (List Value)} (h : apC w E sz v n xs) : FrS (fun b => w.heap[b]?) sz v xs :=
  h.1.elim (fun h1 => row_FrS h1 h.2.1 h.2.2) (fun h1 => h1.1)

theorem apC.slice {w : World} {E sz : Nat} {v : Value} {n : Nat} {xs : List (List Value)} (h : apC w E sz v n xs) : ∃ p : Option Addr × Nat, v = .slice p.1 n p.2 := by
  rcases h.1 with h1 | ⟨_, b', o, rfl, h1⟩
  · exact slice_of_row h1
  · exact ⟨(some ⟨b', 0, none⟩, n), rfl⟩

section rules
variable {P : Program} {n : Nat} {cx : Cx} {e : Env} {L : List Chunk} {d : Nat} {ty : TypeId} {pos : String} {af : Array Edge} {g : Option (Nat × Bool)}

end rules
end Go.Lx

namespace Go.Lx
open Go Go.Vc Go.Md

structure FnH (P : Program) (h : Heap) (v : Value) (R : World → List Value → (Value → World → Prop) → Prop) : Prop where
  out : ∃ (f : FuncId) (pre caps : Array Value), v = .func (.func f) pre caps ∧ (∀ args w, (callFunc f args).run P w = .ok (.enter f args) w) ∧
    ∀ args post w, Know h w noS → R w args post → Does P f (pre.toList ++ (args ++ caps.toList)).toArray w post

theorem FnH.mono {P : Program} {h h' : Heap} {v : Value} {R : World → List Value → (Value → World → Prop) → Prop} (f : FnH P h v R) (k : ∀ b o, h b = some o → h' b = some o) : FnH P h' v R := by
  obtain ⟨g, pre, caps, h1, h2, h3⟩ := f.out
  exact ⟨g, pre, caps, h1, h2, fun args r w hw hR => h3 args r w (fun b o hb => hw b o (k b o hb)) hR⟩

theorem FnH.cells {P : Program} {h : Heap} {v : Value} {R : World → List Value → (Value → World → Prop) → Prop} (f : FnH P h v R) : v.cells.toList = [v] := by
  obtain ⟨g, pre, caps, rfl, _⟩ := f.out; rfl
theorem FrS.cells {h : Heap} {sz : Nat} {v : Value} {xs : List (List Value)} (f : FrS h sz v xs) : v.cells.toList = [v] := by
  obtain ⟨a, c, rfl, _⟩ := f.out; rfl
section rules
variable {P : Program} {n : Nat} {cx : Cx} {e : Env} {L : List Chunk} {ops : Array Oper} {rest : List Oper} {Q : Post} {F : Env → List Chunk → Prop} {ss : List Kd} {d : Nat} {ty : TypeId} {pos : String} {af : Array Edge} {g : Option (Nat × Bool)}

theorem run_callVP {f : FuncId} {X : Operand} {A : Array Operand} {tys : Array TypeId} {args : List Value} {pre caps : Array Value} (hc : ∀ args w, (callFunc f args).run P w = .ok (.enter f args) w) (hX : ev e X = .func (.func f) pre caps) (ha : A.toList.map (ev e) = args) (w : World) :
    (execOp (ev e) ⟨some d, .call ⟨.value X, A, tys⟩, ty, pos, af, g⟩).run P w = .ok (.enter f (pre.toList ++ (args ++ caps.toList)).toArray) w := by
  subst ha
  have : (pre.toList ++ (A.toList.map (ev e) ++ caps.toList)).toArray = pre ++ A.map (ev e) ++ caps := by
    apply Array.ext'
    simp
  rw [this]
  simp only [execOp, resolve, hX, Deferred.ofValue, Sem.run_bind, Sem.run_pure, Result.andThen_ok, invoke, hc]

theorem runs_callV {X : Operand} {A : Array Operand} {tys : Array TypeId} {args : List Value} {v : Value} {h : Heap} {R : World → List Value → (Value → World → Prop) → Prop} {post : Value → World → Prop} {w : World} (hf : FnH P h v R) (hk : Know h w noS) (hR : R w args post) (hX : ev e X = v) (ha : A.toList.map (ev e) = args) :
    RunsTo P (ev e) ⟨some d, .call ⟨.value X, A, tys⟩, ty, pos, af, g⟩ w post := by
  obtain ⟨f, pre, caps, rfl, hc, hd⟩ := hf.out
  unfold RunsTo
  rw [run_callVP hc hX ha]
  exact hd args post w hk hR

theorem l_callV {X : Operand} {A : Array Operand} {tys : Array TypeId} {args : List Value} {v r : Value} {R : World → List Value → (Value → World → Prop) → Prop} (hf : ∀ w, Fr cx w → Sat cx w L → FnH P (fun b => w.heap[b]?) v R ∧ R w args (fun v' w' => v' = r ∧ Grow w w')) (hX : ev e X = v)
    (hw : want ops ⟨some d, .call ⟨.value X, A, tys⟩, ty, pos, af, g⟩ e = true) (hn : Nat.blt d n = true) (ha : A.toList.map (ev e) = args)
    (k : At cx (WL P n ops Q rest) (upd e d r) L) : At cx (WL P n ops Q (⟨some d, .call ⟨.value X, A, tys⟩, ty, pos, af, g⟩ :: rest)) e L :=
  l_runs hw rfl hn fun w hF hS => (runs_callV (hf w hF hS).1 (know_all w) (hf w hF hS).2 hX ha).mono fun v' w' ⟨hv, hg⟩ => by
    subst hv
    exact k.out w' (hF.grow hg) (hS.grow hg)

end rules
end Go.Lx

namespace Go.Lx
open Go Go.Vc Go.Md

open Classical in
noncomputable def but (w : World) (S : Nat → Prop) : Heap := fun b => if S b then none else w.heap[b]?

theorem but_some {w : World} {S : Nat → Prop} {b : Nat} {o : Obj} (hb : w.heap[b]? = some o) (hn : ¬ S b) : but w S b = some o := by
  unfold but; rw [if_neg hn]; exact hb

theorem know_but (w : World) (S : Nat → Prop) : Know (but w S) w S := fun b o h => by
  unfold but at h
  split at h
  · cases h
  · exact ⟨h, by assumption⟩

section rules
variable {P : Program} {n : Nat} {cx : Cx} {e : Env} {L : List Chunk} {d : Nat} {ty : TypeId} {pos : String} {af : Array Edge} {g : Option (Nat × Bool)}

theorem Know.but {h : Heap} {w0 w : World} {S0 S : Nat → Prop} (k : Know h w0 S0) (hF : Fr ⟨w0, S0⟩ w) (ho : ∀ b, S b → Cx.own ⟨w0, S0⟩ b) : ∀ b o, h b = some o → but w S b = some o := fun b o hb => by
  refine but_some (k.now hF b o hb) fun hs => ?_
  obtain ⟨h1, h2⟩ := k b o hb
  have hlt : b < w0.heap.size := by
    rcases Nat.lt_or_ge b w0.heap.size with h | h
    · exact h
    · rw [Array.getElem?_eq_none h] at h1; cases h1
  rcases ho b hs with h | h
  · exact absurd h (by show ¬ w0.heap.size ≤ b; omega)
  · exact h2 h

theorem FrS.but {w : World} {S : Nat → Prop} {sz : Nat} {v : Value} {xs : List (List Value)} (f : FrS (fun b => w.heap[b]?) sz v xs) (hd : ∀ b, v.ownBlock = some b → ¬ S b) : FrS (but w S) sz v xs := by
  obtain ⟨a, c, rfl, h1, h2, r⟩ := f.out
  refine ⟨a, c, rfl, h1, h2, ?_⟩
  rcases r with r | ⟨b, off, cs, T, m, rfl, hb, r⟩
  · exact .inl r
  · exact .inr ⟨b, off, cs, T, m, rfl, but_some hb (hd b rfl), r⟩

def Apart (L' : List Chunk) (i : Nat) (w : World) (S : Nat → Prop) : Prop := ∀ j C, j ≠ i → L'[j]? = some C → ∃ S', C.P S' w ∧ ∀ b, S' b → ¬ S b

theorem c_sel {K : Env → World → Prop} (sel : List Nat) (L' : List Chunk) (hs : sel.map (fun i => L[i]?) = L'.map some) (hnd : sel.Nodup) (k : At cx K e L') : At cx K e L :=
  ⟨fun w hF hS => k.out w hF (hS.select sel hnd hs)⟩

theorem c_splitAt {K : Env → World → Prop} (i j : Nat) {C D : Chunk} (hL : L[i]? = some (bothC C D)) (hjL : L[j]? = some empC) (hne : i ≠ j) (k : At cx K e ((L.set i C).set j D)) : At cx K e L :=
  ⟨fun w hF hS => k.out w hF (by
    obtain ⟨fp, h1, h2, h3⟩ := hS.out
    obtain ⟨S1, S2, k1, k2, k3, k4, k5⟩ := h1 i _ hL
    have hil : i < L.length := by
      rcases Nat.lt_or_ge i L.length with h | h
      · exact h
      · simp [List.getElem?_eq_none h] at hL
    have hjl : j < L.length := by
      rcases Nat.lt_or_ge j L.length with h | h
      · exact h
      · simp [List.getElem?_eq_none h] at hjL
    have hji : ¬ j = i := fun h => hne h.symm
    have key : ∀ q b, (if q = i then S1 b else if q = j then S2 b else fp q b) → (q = i ∧ S1 b) ∨ (q = j ∧ S2 b) ∨ (q ≠ i ∧ q ≠ j ∧ fp q b) := by
      intro q b h
      by_cases hqi : q = i
      · simp only [hqi, if_true] at h; exact .inl ⟨hqi, h⟩
      · by_cases hqj : q = j
        · simp only [hqi, hqj, hji, if_true, if_false] at h; exact .inr (.inl ⟨hqj, h⟩)
        · simp only [hqi, hqj, if_false] at h; exact .inr (.inr ⟨hqi, hqj, h⟩)
    refine ⟨fun q b => if q = i then S1 b else if q = j then S2 b else fp q b, ?_, ?_, ?_⟩
    · intro q c hc
      by_cases hqj : q = j
      · subst hqj
        rw [List.getElem?_set_self (by simpa using hjl)] at hc
        cases hc
        simpa [hji] using k2
      · rw [List.getElem?_set_ne (fun h => hqj h.symm)] at hc
        by_cases hqi : q = i
        · subst hqi
          rw [List.getElem?_set_self hil] at hc
          cases hc
          simpa using k1
        · rw [List.getElem?_set_ne (fun h => hqi h.symm)] at hc
          simpa [hqi, hqj] using h1 q c hc
    · intro q b hb
      rcases key q b hb with ⟨rfl, h⟩ | ⟨rfl, h⟩ | ⟨_, _, h⟩
      · exact ⟨by simpa using hil, (h2 _ b (k3 b h)).2⟩
      · exact ⟨by simpa using hjl, (h2 _ b (k4 b h)).2⟩
      · obtain ⟨a1, a2⟩ := h2 q b h
        exact ⟨by simpa using a1, a2⟩
    · intro p q b hp hq
      rcases key p b hp with ⟨rfl, h⟩ | ⟨rfl, h⟩ | ⟨n1, n2, h⟩ <;> rcases key q b hq with ⟨e1, h'⟩ | ⟨e1, h'⟩ | ⟨m1, m2, h'⟩
      · exact e1.symm
      · exact absurd h' (k5 b h)
      · exact absurd (h3 _ _ b (k3 b h) h') (fun h => m1 h.symm)
      · exact absurd h (k5 b h')
      · exact e1.symm
      · exact absurd (h3 _ _ b (k4 b h) h') (fun h => m1 h.symm)
      · exact absurd (h3 _ _ b h (e1 ▸ k3 b h')) (fun hh => n1 hh)
      · exact absurd (h3 _ _ b h (k4 b h')) n1
      · exact h3 p q b h h')⟩

theorem turns_opB {σ : Type} {o : Oper} {i : Nat} {f : FuncId} {args : List Value} {rds : List Nat} {G : σ → Value} {C0 : Chunk} {C : σ → Chunk} (hL : L[i]? = some C0)
    (h : ∀ w L' S, Fr cx w → Sat cx w L' → (∀ j ∈ rds, L'[j]? = L[j]?) → C0.P S w → (∀ b, S b → b < w.heap.size) → (∀ b, S b → cx.own b) → Apart L' i w S → Does P f args.toArray w fun v w' => ∃ x, v = G x ∧ Turn w w' S (C x)) (hr : ∀ w, (execOp (ev e) o).run P w = .ok (.enter f args.toArray) w) : Turns P cx e o L i rds G C := fun w L' hF hS hl hi => by
  unfold RunsTo
  rw [hr w]
  have hL' := (hi i (.inr rfl)).trans hL
  show Does P f args.toArray w _
  obtain ⟨fp, h1, h2, h3⟩ := hS.out
  have hSi : ∀ b, fp i b → b < w.heap.size ∧ cx.own b := fun b hb => (h2 i b hb).2
  refine (h w L' (fp i) hF hS (fun j hj => hi j (.inl hj)) (h1 i C0 hL') (fun b hb => (hSi b hb).1) (fun b hb => (hSi b hb).2) (fun j C hji hC => ⟨fp j, h1 j C hC, fun b hb hbi => hji (h3 j i b hb hbi)⟩)).mono fun v' w' ⟨x, hv, ht⟩ => ⟨x, hv, hF.turn ht fun b hb => (hSi b hb).2, ?_⟩
  obtain ⟨S', k1, k2⟩ := ht.out
  have hil : i < L'.length := by
    rcases Nat.lt_or_ge i L'.length with h | h
    · exact h
    · simp [List.getElem?_eq_none h] at hL'
  refine ⟨fun j b => if j = i then S' b else fp j b, ?_, ?_, ?_⟩
  · intro j c hc'
    by_cases hji : j = i
    · subst hji
      simp [List.getElem?_set_self hil] at hc'
      subst hc'
      simpa using k1
    · rw [List.getElem?_set_ne (fun e => hji e.symm)] at hc'
      simp only [hji, if_false]
      exact c.loc _ _ _ (fun b hb => ht.block b (h2 j b hb).2.1 (fun hib => hji (h3 j i b hb hib))) (h1 j c hc')
  · intro j b hb
    by_cases hji : j = i
    · simp only [hji, if_true] at hb
      refine ⟨by simp [hji, hil], (k2 b hb).1, ?_⟩
      rcases (k2 b hb).2 with h | h
      · exact (h2 i b h).2.2
      · exact .inl (Nat.le_trans hF.size h)
    · simp only [hji, if_false] at hb
      obtain ⟨a1, a2, a3⟩ := h2 j b hb
      exact ⟨by simpa using a1, Nat.lt_of_lt_of_le a2 ht.size, a3⟩
  · intro j q b hj hq
    by_cases hji : j = i <;> by_cases hqi : q = i <;> simp only [hji, hqi, if_true, if_false] at hj hq
    · omega
    · obtain ⟨_, a2, _⟩ := h2 q b hq
      rcases (k2 b hj).2 with h | h
      · exact absurd (h3 q i b hq h) hqi
      · omega
    · obtain ⟨_, a2, _⟩ := h2 j b hj
      rcases (k2 b hq).2 with h | h
      · exact absurd (h3 j i b hj h) hji
      · omega
    · exact h3 j q b hj hq

theorem turns_callB {σ : Type} {i : Nat} {f : FuncId} {A : Array Operand} {tys : Array TypeId} {args : List Value} {rds : List Nat} {G : σ → Value} {C0 : Chunk} {C : σ → Chunk} (hL : L[i]? = some C0)
    (h : ∀ w L' S, Fr cx w → Sat cx w L' → (∀ j ∈ rds, L'[j]? = L[j]?) → C0.P S w → (∀ b, S b → b < w.heap.size) → (∀ b, S b → cx.own b) → Apart L' i w S → Does P f args.toArray w fun v w' => ∃ x, v = G x ∧ Turn w w' S (C x)) (hc : ∀ args w, (callFunc f args).run P w = .ok (.enter f args) w)
    (ha : A.toList.map (ev e) = args) : Turns P cx e ⟨some d, .call ⟨.value (.func f), A, tys⟩, ty, pos, af, g⟩ L i rds G C :=
  turns_opB hL h (run_call hc ha)

end rules
end Go.Lx

namespace Go.Lx
open Go Go.Vc Go.Md

section ops
variable {P : Program} {e : Env} {d : Option Nat} {ty : TypeId} {pos : String} {af : Array Edge} {g : Option (Nat × Bool)}

end ops

def Kd.sr (i : Nat) (C : Chunk) : Kd := .g [] [i] [i] (fun _ _ v => v = undef) (fun _ _ _ => [C])

section rules
variable {P : Program} {n : Nat} {cx : Cx} {e : Env} {L : List Chunk} {ops : Array Oper} {rest : List Oper} {F : Env → List Chunk → Prop} {ss : List Kd} {ty : TypeId} {pos : String} {af : Array Edge} {g : Option (Nat × Bool)}

end rules
end Go.Lx

namespace Go.Lx
open Go Go.Vc Go.Md

theorem caseB {p : Prop} (b : Bool) (ht : b = true → p) (hf : b = false → p) : p := by
  cases b
  · exact hf rfl
  · exact ht rfl

section ops
variable {P : Program} {cx : Cx} {e : Env} {L : List Chunk} {d : Option Nat} {ty : TypeId} {pos : String} {af : Array Edge} {g : Option (Nat × Bool)}


end ops
end Go.Lx

namespace Go.Lx
open Go Go.Vc Go.Md

section ops
variable {P : Program} {e : Env} {d : Option Nat} {ty : TypeId} {pos : String} {af : Array Edge} {g : Option (Nat × Bool)}

end ops
end Go.Lx

namespace Go.Lx
open Go Go.Vc Go.Md

theorem gCut_len {α : Type} {xs ys : List α} {l q : Int} (e : gCut xs l q = some ys) : ys.length = q.toNat - l.toNat := by
  obtain ⟨g0, g1, g2, rfl⟩ := gCut_some e
  rw [List.length_take, List.length_drop]; omega

section ops
variable {P : Program} {e : Env} {d : Option Nat} {ty : TypeId} {pos : String} {af : Array Edge} {g : Option (Nat × Bool)}

end ops
end Go.Lx

namespace Go.Lx
open Go Go.Vc Go.Md

section rules
variable {cx : Cx} {K : Env → World → Prop} {e : Env} {L : List Chunk}

end rules

def FnV {μ : Type} (P : Program) (v : Value) (m : Option μ) (R : μ → World → List Value → (Value → World → Prop) → Prop) : Prop := (m = none ∧ v = .nilFunc) ∨ ∃ g, m = some g ∧ ∀ h, FnH P h v (R g)

theorem FnV.nil {μ : Type} {P : Program} {R : μ → World → List Value → (Value → World → Prop) → Prop} : FnV P .nilFunc none R := .inl ⟨rfl, rfl⟩
theorem FnV.mk {μ : Type} {P : Program} {v : Value} {g : μ} {R : μ → World → List Value → (Value → World → Prop) → Prop} (h : ∀ h, FnH P h v (R g)) : FnV P v (some g) R := .inr ⟨g, rfl, h⟩
theorem FnV.cells {μ : Type} {P : Program} {v : Value} {m : Option μ} {R : μ → World → List Value → (Value → World → Prop) → Prop} (f : FnV P v m R) : v.cells.toList = [v] := by
  rcases f with ⟨_, rfl⟩ | ⟨g, _, f⟩
  · rfl
  · exact (f fun _ => none).cells
theorem FnV.fn {μ : Type} {P : Program} {v : Value} {m : Option μ} {g : μ} {R : μ → World → List Value → (Value → World → Prop) → Prop} (f : FnV P v m R) (hm : m = some g) (h : Heap) : FnH P h v (R g) := by
  rcases f with ⟨h1, _⟩ | ⟨g', h1, f⟩
  · rw [hm] at h1; cases h1
  · rw [hm] at h1; cases h1; exact f h

section ops
variable {P : Program} {e : Env} {d : Option Nat} {ty : TypeId} {pos : String} {af : Array Edge} {g : Option (Nat × Bool)}

end ops

section rules
variable {P : Program} {n : Nat} {cx : Cx} {e : Env} {L : List Chunk} {ops : Array Oper} {rest : List Oper} {Q : Post} {F : Env → List Chunk → Prop} {ss : List Kd} {d : Option Nat} {ty : TypeId} {pos : String} {af : Array Edge} {g : Option (Nat × Bool)}

theorem l_turn0 {σ : Type} {o : Oper} {i : Nat} {rds : List Nat} {G : σ → Value} {C : σ → Chunk} (h : Turns P cx e o L i rds G C) (hw : want ops o e = true) (hd : o.dst = none)
    (k : ∀ x, At cx (WL P n ops Q rest) e (L.set i (C x))) : At cx (WL P n ops Q (o :: rest)) e L :=
  ⟨fun w hF hS => ⟨fun a ha => by
    have hr := (h w L hF hS rfl (fun _ _ => rfl)).mono (R' := fun _ w' => WL P n ops Q rest e w') fun v w' ⟨x, hv, hF', hS'⟩ => (k x).out w' hF' hS'
    unfold RunsTo at hr
    unfold wpList
    rw [want_eq ha, hw, if_pos rfl]
    refine .inl ?_
    unfold Oper.wp
    rw [ha.ev]
    generalize (execOp (ev e) o).run P w = r at hr
    cases r with
    | halt x w' => exact hr.elim
    | ok nx w' =>
      cases nx with
      | value v =>
        show wpList P ops (lift n Q) rest (a.put o.dst v) w'
        rw [hd]
        exact hr.out _ ha
      | skip =>
        show wpList P ops (lift n Q) rest (a.put o.dst undef) w'
        rw [hd]
        exact hr.out _ ha
      | enter f args =>
        refine Calls.mono hr ?_
        rintro en w'' ⟨v, rfl, hk⟩
        show wpList P ops (lift n Q) rest (a.put o.dst v) w''
        rw [hd]
        exact hk.out _ ha
      | _ => exact hr.elim⟩⟩

end rules


def _root_.Go.Vc.Kd.fv (φ : Value → Prop) : Kd := .g [] [] [] (fun _ _ v => φ v) (fun _ _ _ => [])

section rules
variable {P : Program} {n : Nat} {cx : Cx} {e : Env} {L : List Chunk} {ops : Array Oper} {rest : List Oper} {Q : Post} {F : Env → List Chunk → Prop} {ss : List Kd} {d : Nat} {ty : TypeId} {pos : String} {af : Array Edge} {g : Option (Nat × Bool)}

end rules

end Go.Lx

namespace Go.Lx
open Go Go.Vc Go.Md

theorem Know.at {h : Heap} {w0 w : World} {S : Nat → Prop} (k : Know h w0 S) (hF : Fr ⟨w0, S⟩ w) : Know h w noS := fun b o hb => ⟨k.now hF b o hb, fun x => x⟩

theorem FrS.cutL {α : Type} {h : Heap} {sz : Nat} {a : Option Addr} {n c : Nat} {f : α → List Value} {xs ys : List α} {l q : Int} (s : FrS h sz (.slice a n c) (xs.map f)) (e : gCut xs l q = some ys) : FrS h sz (.slice (cutA a l.toNat c sz) ys.length (c - l.toNat)) (ys.map f) := by
  have := s.cut e
  rw [gCut_len e]
  exact this


section ops
variable {P : Program} {e : Env} {d : Option Nat} {ty : TypeId} {pos : String} {af : Array Edge} {g : Option (Nat × Bool)}

end ops


section rules
variable {P : Program} {n : Nat} {cx : Cx} {e : Env} {L : List Chunk} {ops : Array Oper} {rest : List Oper} {Q : Post} {F : Env → List Chunk → Prop} {ss : List Kd} {d : Nat} {ty : TypeId} {pos : String} {af : Array Edge} {g : Option (Nat × Bool)}



def _root_.Go.Vc.Kd.sv (a b i : Nat) (cs : Value → List Value) (T : TypeId) : Kd := .g [a, b] [i] [i] (fun _ _ v => v = undef) (fun vs _ _ => [boxOf (vs.headD undef) (cs (vs.getD 1 undef)) T])

theorem d_storeV {i : Nat} {a q T T0 b o sz : Nat} {x : Value} {cs vs : List Value} {cs' : Value → List Value} (hs : ∀ w, (sizeOf T).run P w = .ok sz w)
    (hw : want ops ⟨none, .store T (.tmp a) (.tmp q), ty, pos, af, g⟩ e = true) (hp : e a = .pointer (some ⟨b, o, none⟩)) (hx : e q = x) (hc : x.cells.toList = vs) (hsz : vs.length = sz) (hpos : Nat.blt 0 sz = true)
    (hone : vs.all Value.oneCell' = true) (hL : L[i]? = some (cellsC b cs T0)) (hv : wr cs o vs = some (cs' x))
    (k : Sq P cx ops F rest ss e (L.set i (cellsC b (cs' x) T0))) : Sq P cx ops F (⟨none, .store T (.tmp a) (.tmp q), ty, pos, af, g⟩ :: rest) (.sv a q i cs' T0 :: ss) e L := by
  have hbox : boxOf (([a, q].map e).headD undef) (cs' (([a, q].map e).getD 1 undef)) T0 = cellsC b (cs' x) T0 := by
    have h1 : ([a, q].map e).headD undef = e a := rfl
    have h2 : ([a, q].map e).getD 1 undef = e q := rfl
    rw [h1, h2, hp, hx]; rfl
  refine .take hw ⟨undef, rfl⟩ ⟨fun w L' hF hS _ hi => ?_⟩ fun v' hv' => ?_
  · have hL' := (hi i (.inl (by simp [Kd.sv, Kd.rds]))).trans hL
    have hb := sat_cell hS hL'
    unfold RunsTo
    rw [Go.Vc.run_store hs (by exact hp) (by exact hx) hc hsz hpos hone hv hb]
    have hset := setRow_heap w b cs.toArray (cs' x).toArray T0 (0, 0) hb
    refine ⟨rfl, ⟨hF.os, hF.tape, hF.output, by simpa using hF.size, fun c hcn => ?_⟩, ?_⟩
    · rw [setRow_other w b c _ (fun e => ?_)]
      · exact hF.block c hcn
      · obtain ⟨fp, f1, f2, _⟩ := hS.out
        have := (f2 i b ((f1 i _ hL').1 b |>.2 rfl)).2.2
        subst e
        exact hcn this
    · show Sat cx _ (L'.set i (boxOf (([a, q].map e).headD undef) (cs' (([a, q].map e).getD 1 undef)) T0))
      rw [hbox]
      exact hS.set hF hL' (by simp) fun S hSp hSo => ⟨S, ⟨hSp.1, hset⟩, fun c hc => ⟨by simpa using (hSo c hc).1, .inl hc⟩, fun c _ hcS => setRow_other w b c _ (fun e => hcS ((hSp.1 c).2 e))⟩
  · have hbox' := hbox
    show Sq P cx ops F rest ss (putD e none v') (L.set i (boxOf (([a, q].map e).headD undef) (cs' (([a, q].map e).getD 1 undef)) T0))
    rw [hbox]
    exact k

end rules
end Go.Lx

namespace Go.Lx
open Go Go.Vc Go.Md

def elH (h : Heap) (v : Value) (sz i j : Nat) : Value :=
  if j < sz then match v with
  | .slice (some ⟨b, off, _⟩) _ _ => match h b with
    | some (.cells cs _ _) => cs.getD (off + i * sz + j) undef
    | _ => undef
  | _ => undef else undef
def elC (h : Heap) (v : Value) (sz i : Nat) : List Value := (List.range sz).map (elH h v sz i)

class Mon {α : Type} (G : Heap → (Nat → Value) → α → Prop) : Prop where
  mono : ∀ {h h' : Heap}, (∀ b o, h b = some o → h' b = some o) → ∀ c x, G h c x → G h' c x

structure FrN {α : Type} (h : Heap) (sz : Nat) (v : Value) (G : Heap → (Nat → Value) → α → Prop) (xs : List α) : Prop where
  frs : FrS h sz v ((List.range xs.length).map (elC h v sz))
  el : ∀ (i : Nat) (x : α), xs[i]? = some x → G h (elH h v sz i) x

theorem elH_mono {h h' : Heap} {v : Value} {sz : Nat} {ys : List (List Value)} (f : FrS h sz v ys) (hy : 0 < ys.length) (k : ∀ b o, h b = some o → h' b = some o) (i : Nat) : elH h v sz i = elH h' v sz i := by
  funext j
  obtain ⟨a, c, rfl, _, _, r⟩ := f.out
  rcases r with r | ⟨b, off, cs, T, m, rfl, hb, _⟩
  · subst r; simp at hy
  · simp only [elH, hb, k b _ hb]

theorem FrN.mono {α : Type} {h h' : Heap} {sz : Nat} {v : Value} {G : Heap → (Nat → Value) → α → Prop} [M : Mon G] {xs : List α} (f : FrN h sz v G xs) (k : ∀ b o, h b = some o → h' b = some o) : FrN h' sz v G xs := by
  have key : ∀ i, i < xs.length → elH h v sz i = elH h' v sz i := fun i hi => elH_mono f.frs (by simp; omega) k i
  refine ⟨?_, fun i x hx => ?_⟩
  · have := f.frs.mono k
    have e : (List.range xs.length).map (elC h v sz) = (List.range xs.length).map (elC h' v sz) := by
      apply List.map_congr_left
      intro i hi
      unfold elC
      rw [key i (by simpa using hi)]
    rwa [e] at this
  · have hi : i < xs.length := by
      rcases Nat.lt_or_ge i xs.length with h | h
      · exact h
      · rw [List.getElem?_eq_none h] at hx; cases hx
    rw [← key i hi]
    exact M.mono k _ _ (f.el i x hx)

theorem FrN.nil {α : Type} (h : Heap) (sz : Nat) (G : Heap → (Nat → Value) → α → Prop) : FrN h sz (.slice none 0 0) G [] := ⟨FrS.nil _ _, by simp⟩

section acc
variable {α : Type} {h : Heap} {sz : Nat} {v : Value} {G : Heap → (Nat → Value) → α → Prop} {xs ys : List α}
theorem FrN.cells (f : FrN h sz v G xs) : v.cells.toList = [v] := f.frs.cells
theorem FrN.eq (f : FrN h sz v G xs) : v = .slice (sa v) xs.length (sc v) := by
  have := f.frs.eq; rwa [List.length_map, List.length_range] at this
theorem FrN.len (f : FrN h sz v G xs) : xs.length ≤ sc v ∧ sc v ≤ 9223372036854775807 := by
  have := f.frs.len; rwa [List.length_map, List.length_range] at this
theorem FrN.at (f : FrN h sz v G xs) {i : Int} {x : α} (g : gAt xs i = some x) : G h (elH h v sz i.toNat) x := f.el _ _ (gAt_some g).2.2
theorem FrN.ix (_ : FrN h sz v G xs) {i : Int} {x : α} (g : gAt xs i = some x) : gAt (List.range xs.length) i = some i.toNat := by
  obtain ⟨h0, h1, _⟩ := gAt_some g
  rw [gAt_ok h0 (by simpa using h1)]; simp
theorem gCut_range {l q : Int} (e : gCut xs l q = some ys) : gCut (List.range xs.length) l q = some (((List.range xs.length).drop l.toNat).take (q.toNat - l.toNat)) := by
  obtain ⟨g0, g1, g2, _⟩ := gCut_some e
  exact gCut_ok ⟨g0, g1, by simpa using g2⟩

theorem FrN.cut (f : FrN h sz v G xs) {l q : Int} (e : gCut xs l q = some ys) : FrN h sz (cutV sz v l q) G ys := by
  obtain ⟨g0, g1, g2, rfl⟩ := gCut_some e
  have hl := f.len
  have h0 := FrS.cut f.frs (gCut_range e)
  have hlen : ((xs.drop l.toNat).take (q.toNat - l.toNat)).length = q.toNat - l.toNat := by rw [List.length_take, List.length_drop]; omega
  have key : ∀ i, i < q.toNat - l.toNat → elH h (cutV sz v l q) sz i = elH h v sz (l.toNat + i) := by
    intro i hi
    funext j
    obtain ⟨a, c, hva, h1, _, r⟩ := f.frs.out
    simp only [List.length_map, List.length_range] at hva h1
    rcases r with r | ⟨b, off, cs, T, m, ha, hb, _⟩
    · have := congrArg List.length r
      simp at this
      rw [this] at g2
      simp at g2
      omega
    · have hm : ¬ c = l.toNat := by omega
      rw [hva, ha]
      simp only [cutV, sa, sc, cutA, if_neg hm, Option.map_some, Addr.add_lit, elH, hb]
      rw [show off + l.toNat * sz + i * sz + j = off + (l.toNat + i) * sz + j from by rw [Nat.add_mul]; omega]
  refine ⟨?_, fun i x hx => ?_⟩
  · have e1 : ((List.range ((xs.drop l.toNat).take (q.toNat - l.toNat)).length).map (elC h (cutV sz v l q) sz)) = (((List.range xs.length).drop l.toNat).take (q.toNat - l.toNat)).map (elC h v sz) := by
      rw [hlen]
      apply List.ext_getElem
      · simp; omega
      · intro i h1 h2
        simp only [List.length_map, List.length_range] at h1
        simp only [List.getElem_map, List.getElem_range, List.getElem_take, List.getElem_drop]
        unfold elC
        rw [key i h1]
    rw [e1]; exact h0
  · have hi : i < q.toNat - l.toNat := by
      rcases Nat.lt_or_ge i (q.toNat - l.toNat) with h | h
      · exact h
      · rw [List.getElem?_eq_none (by rw [hlen]; exact h)] at hx; cases hx
    rw [key i hi]
    rw [List.getElem?_take, if_pos hi, List.getElem?_drop] at hx
    exact f.el _ _ hx
end acc

theorem FrN.cutL {α : Type} {h : Heap} {sz : Nat} {a : Option Addr} {n c : Nat} {G : Heap → (Nat → Value) → α → Prop} {xs ys : List α} {l q : Int} (s : FrN h sz (.slice a n c) G xs) (e : gCut xs l q = some ys) : FrN h sz (.slice (cutA a l.toNat c sz) ys.length (c - l.toNat)) G ys := by
  have := s.cut e
  rw [gCut_len e]
  exact this

theorem rg_of {l l' : List Value} {j : Nat} {v : Value} (e : l = l') (h : rg l' j = some v) : rg l j = some v := by subst e; exact h

def AllG {α : Type} (G : Heap → (Nat → Value) → α → Prop) (h : Heap) (sz : Nat) : List Value → List α → Prop
  | cs, [] => cs = []
  | cs, x :: r => G h (fun j => (cs.take sz).getD j undef) x ∧ AllG G h sz (cs.drop sz) r

theorem AllG.el {α : Type} {G : Heap → (Nat → Value) → α → Prop} {h : Heap} {sz : Nat} : ∀ {cs : List Value} {xs : List α}, AllG G h sz cs xs → ∀ (i : Nat) (x : α), xs[i]? = some x → G h (fun j => ((cs.drop (i * sz)).take sz).getD j undef) x
  | _, [], _, i, x, hx => by simp at hx
  | cs, y :: r, hp, 0, x, hx => by
    simp at hx; subst hx
    have := hp.1
    simpa using this
  | cs, y :: r, hp, i + 1, x, hx => by
    have := AllG.el hp.2 i x (by simpa using hx)
    rw [List.drop_drop, show sz + i * sz = (i + 1) * sz from by rw [Nat.succ_mul]; omega] at this
    exact this

section rules
variable {P : Program} {n : Nat} {cx : Cx} {e : Env} {L : List Chunk}

theorem frn_box {α : Type} {G : Heap → (Nat → Value) → α → Prop} {w : World} {i b m T sz : Nat} {cs : List Value} {xs : List α} (hS : Sat cx w L) (hL : L[i]? = some (cellsC b cs T)) (hl : cs.length = m * sz) (hm : xs.length = m) (hm' : Nat.ble m 9223372036854775807 = true)
    (hG : AllG G (fun b => w.heap[b]?) sz cs xs) : FrN (fun b => w.heap[b]?) sz (.slice (some ⟨b, 0, none⟩) m m) G xs := by
  subst hm
  have hb : w.heap[b]? = some (.cells cs.toArray T (0, 0)) := sat_cell hS hL
  have key : ∀ i, elH (fun b => w.heap[b]?) (.slice (some ⟨b, 0, none⟩) xs.length xs.length) sz i = fun j => ((cs.drop (i * sz)).take sz).getD j undef := by
    intro i; funext j
    simp only [elH, hb, Nat.zero_add, List.getD_eq_getElem?_getD, Array.getD_eq_getD_getElem?, List.getElem?_toArray, List.getElem?_take, List.getElem?_drop]
    split <;> rfl
  refine ⟨⟨some ⟨b, 0, none⟩, xs.length, by simp, by simp, by simpa using hm', .inr ⟨b, 0, cs.toArray, T, (0, 0), rfl, hb, fun i x hx => ?_⟩⟩, fun i x hx => ?_⟩
  · have hi : i < xs.length := by
      rcases Nat.lt_or_ge i xs.length with h | h
      · exact h
      · rw [List.getElem?_eq_none (by simpa using h)] at hx; cases hx
    simp only [List.getElem?_map, List.getElem?_range hi, Option.map_some, Option.some.injEq] at hx
    subst hx
    refine ⟨by simp [elC], fun j v hv => ?_⟩
    unfold elC at hv
    rw [key i] at hv
    have hj : j < sz := by
      rcases Nat.lt_or_ge j sz with h | h
      · exact h
      · rw [List.getElem?_eq_none (by simpa using h)] at hv; cases hv
    simp only [List.getElem?_map, List.getElem?_range hj, Option.map_some, Option.some.injEq] at hv
    have hlt : i * sz + j < cs.length := by
      rw [hl]
      have : (i + 1) * sz ≤ xs.length * sz := Nat.mul_le_mul_right _ (by omega)
      rw [Nat.succ_mul] at this
      omega
    rw [← hv]
    simp [List.getD_eq_getElem?_getD, List.getElem?_eq_getElem hlt, List.getElem?_take, List.getElem?_drop, hj]
  · rw [key i]
    exact hG.el i x hx

section ops
variable {d : Option Nat} {ty : TypeId} {pos : String} {af : Array Edge} {g : Option (Nat × Bool)}

theorem r_lenFN {α : Type} {G : Heap → (Nat → Value) → α → Prop} {X : Operand} {t u sz : TypeId} {h : Heap} {v : Value} {xs : List α} (hu : P.underlying t = some (.slice u)) (hx : ev e X = v) (hs : FrN h sz v G xs) (w : World) :
    (execOp (ev e) ⟨d, .call ⟨.builtin .len, #[X], #[t]⟩, ty, pos, af, g⟩).run P w = .ok (.value (.int .i64 xs.length)) w :=
  r_len (P := P) (d := d) (ty := ty) (pos := pos) (af := af) (g := g) hu (hx.trans hs.eq) w

end ops
end rules
end Go.Lx

namespace Go.Lx
open Go Go.Vc Go.Md

section rules
variable {P : Program} {n : Nat} {cx : Cx} {Q : Post} {K : Env → World → Prop} {e : Env} {L : List Chunk} {ops : Array Oper} {F : Env → List Chunk → Prop} {rest : List Oper} {ss : List Kd} {d : Nat} {ty : TypeId} {pos : String} {af : Array Edge} {g : Option (Nat × Bool)}

section ops
end ops

end rules
end Go.Lx

namespace Go.Lx
open Go Go.Vc Go.Md

section rules
variable {P : Program} {cx : Cx} {e : Env} {L : List Chunk}

end rules

theorem cells_sz {v : Value} (h : v.cells.toList = [v]) : v.cells.size = 1 := by have := congrArg List.length h; simpa using this

section rules
variable {P : Program} {n : Nat} {cx : Cx} {e : Env} {L : List Chunk} {d : Nat} {ty : TypeId} {pos : String} {af : Array Edge} {g : Option (Nat × Bool)}

theorem r_cap {dd : Option Nat} {X : Operand} {t u m c : Nat} {a : Option Addr} (hu : P.underlying t = some (.slice u)) (hx : ev e X = .slice a m c) (w : World) :
    (execOp (ev e) ⟨dd, .call ⟨.builtin .cap, #[X], #[t]⟩, ty, pos, af, g⟩).run P w = .ok (.value (.int .i64 (c : Nat))) w := by
  simp [execOp, resolve, invoke, builtin, hx, Builtin.cap_, run_underlying hu, goInt]

theorem r_sliceH0 {dd : Option Nat} {X B : Operand} {g0 m c : Nat} {t u sz : Nat} {kb : IntKind} (hu : P.underlying t = some (.slice u)) (hs : ∀ w, (sizeOf u).run P w = .ok sz w)
    (hx : ev e X = .slice (some ⟨g0, 0, none⟩) m c) (hb : ev e B = .int kb 0) (w : World) :
    (execOp (ev e) ⟨dd, .slice t X none (some B) none, ty, pos, af, g⟩).run P w = .ok (.value (.slice (some ⟨g0, 0, none⟩) 0 c)) w := by
  have h := r_sliceH (P := P) (d := dd) (ty := ty) (pos := pos) (af := af) (g := g) hu hs hx hb (Int.le_refl 0) (by omega) w
  have e1 : cutA (some (⟨g0, 0, none⟩ : Addr)) 0 c sz = some ⟨g0, 0, none⟩ := by
    unfold cutA; split
    · rfl
    · simp [Addr.add_lit]
  rw [h, e1]; rfl

end rules
end Go.Lx
