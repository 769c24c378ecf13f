/- Models: partial functions in plain Lean that stand for Go functions, the guards of single operations, and one way to loop and to recur. Conditions: none. -/
import GoSem.Step
namespace Go.Md
def J0 {α β : Type} (m : Option α) (k : α → Option β) : Option β :=
 match m with
 | some a => k a
 | none => none
theorem Je {α β : Type} {m : Option α} {k : α → Option β} {r : β} (h : J0 m k = some r) : ∃ a, m = some a ∧ k a = some r := by
 cases m with
 | none => cases h
 | some a => exact ⟨a, rfl, h⟩
@[simp] theorem Jb {α β : Type} (a : α) (k : α → Option β) : J0 (some a) k = k a := rfl
@[simp] theorem bnd_none {α β : Type} (k : α → Option β) : J0 none k = none := rfl
def val {α : Type} [Inhabited α] (m : Option α) : α := m.getD default
theorem Jr {α β : Type} [Inhabited α] {m : Option α} {k : α → Option β} {r : β} (h : J0 m k = some r) : m = some (val m) := by
 cases m with
 | none => cases h
 | some a => rfl
theorem Jn {α β : Type} [Inhabited α] {m : Option α} {k : α → Option β} {r : β} (h : J0 m k = some r) : k (val m) = some r := by
 cases m with
 | none => cases h
 | some a => exact h
def Xg {α : Type} (b : Bool) (x y : Option α) : Option α := match b with | true => x | false => y
theorem Jw {α : Type} {b : Bool} {x y : Option α} {r : Option α} (hb : b = true) (h : Xg b x y = r) : x = r := by subst hb; exact h
theorem Jx {α : Type} {b : Bool} {x y : Option α} {r : Option α} (hb : b = false) (h : Xg b x y = r) : y = r := by subst hb; exact h
@[simp] theorem Jj {α : Type} (x y : Option α) : Xg true x y = x := rfl
@[simp] theorem Ji {α : Type} (x y : Option α) : Xg false x y = y := rfl
theorem cnd_if {α : Type} (p : Prop) [Decidable p] (x y : Option α) : Xg (decide p) x y = if p then x else y := by
 by_cases h : p <;> simp [h]
def it {α ρ : Type} (F : (α → Option ρ) → α → Option ρ) : Nat → α → Option ρ
 | 0, _ => none
 | n + 1, a => F (it F n) a
open Classical in
noncomputable def Zx {α ρ : Type} (F : (α → Option ρ) → α → Option ρ) (a : α) : Option ρ :=
 if h : ∃ r k, ∀ n, k ≤ n → it F n a = some r then some (Classical.choose h) else none
theorem fix_it {α ρ : Type} {F : (α → Option ρ) → α → Option ρ} {a : α} {r : ρ} (h : Zx F a = some r) : ∃ n, it F n a = some r := by
 unfold Zx at h
 split at h
 ·rename_i hh
  cases h
  obtain ⟨k, hk⟩ := Classical.choose_spec hh
  exact ⟨k, hk k (Nat.le_refl _)⟩
 ·cases h
theorem fix_ev {α ρ : Type} {F : (α → Option ρ) → α → Option ρ} {a : α} {o : Option ρ} {k : Nat} (h : ∀ n, k ≤ n → it F n a = o) : Zx F a = o := by
 unfold Zx
 cases o with
 | some r =>
  have hh : ∃ r k, ∀ n, k ≤ n → it F n a = some r := ⟨r, k, h⟩
  rw [dif_pos hh]
  obtain ⟨k', hk'⟩ := Classical.choose_spec hh
  have h1 := hk' (max k k') (Nat.le_max_right _ _)
  rw [h _ (Nat.le_max_left _ _)] at h1
  exact h1.symm
 | none =>
  rw [dif_neg]
  rintro ⟨r, k', hk'⟩
  have h1 := hk' (max k k') (Nat.le_max_right _ _)
  rw [h _ (Nat.le_max_left _ _)] at h1
  cases h1
theorem fix_of {α ρ : Type} {F : (α → Option ρ) → α → Option ρ} (spec : α → Option ρ) (I : α → Prop) (μ : α → Nat)
  (step : ∀ (next : α → Option ρ) (a : α), I a → (∀ b, I b → μ b < μ a → next b = spec b) → F next a = spec a) (a : α) (ha : I a) : Zx F a = spec a := by
 have key : ∀ (n : Nat) (a : α), I a → μ a < n → it F n a = spec a := by
  intro n
  induction n with
  | zero => intro a _ h; omega
  | succ n ih => intro a ha h; exact step _ a ha fun b hb hlt => ih b hb (by omega)
 exact fix_ev (k := μ a + 1) fun n hn => key n a ha (by omega)
theorem it_ev {α ρ : Type} {F : (α → Option ρ) → α → Option ρ} {a b : α} (h : ∀ next, F next a = next b) : Zx F a = Zx F b := by
 by_cases hb : ∃ r k, ∀ n, k ≤ n → it F n b = some r
 ·obtain ⟨r, k, hk⟩ := hb
  rw [fix_ev (o := some r) (k := k) hk, fix_ev (o := some r) (k := k + 1)]
  intro n hn
  cases n with
  | zero => omega
  | succ n => show F (it F n) a = some r; rw [h]; exact hk n (by omega)
 ·have ha : ¬ ∃ r k, ∀ n, k ≤ n → it F n a = some r := by
   rintro ⟨r, k, hk⟩
   exact hb ⟨r, k, fun n hn => by have := hk (n + 1) (by omega); rw [show it F (n + 1) a = F (it F n) a from rfl, h] at this; exact this⟩
  unfold Zx
  rw [dif_neg hb, dif_neg ha]
theorem Yr {α ρ : Type} {F : (α → Option ρ) → α → Option ρ} {a : α} (b : α) (h : ∀ next, F next a = next b) : Zx F a = Zx F b := it_ev h
theorem Q8 {α ρ : Type} {F : (α → Option ρ) → α → Option ρ} {a : α} {o : Option ρ} (h : ∀ next, F next a = o) : Zx F a = o :=
 fix_ev (k := 1) fun n hn => by
  cases n with
  | zero => omega
  | succ n => exact h _
def gI (x : Int) : Option Int := if -9223372036854775808 ≤ x ∧ x ≤ 9223372036854775807 then some x else none
theorem gI_some {x y : Int} (h : gI x = some y) : y = x ∧ -9223372036854775808 ≤ x ∧ x ≤ 9223372036854775807 := by
 unfold gI at h; split at h
 ·cases h; exact ⟨rfl, ‹_›⟩
 ·cases h
theorem Qi {x : Int} (h : -9223372036854775808 ≤ x ∧ x ≤ 9223372036854775807) : gI x = some x := if_pos h
def gQuo (x y : Int) : Option Int := if y = 0 then none else gI (x.tdiv y)
theorem gQuo_some {x y z : Int} (h : gQuo x y = some z) : y ≠ 0 ∧ z = x.tdiv y ∧ -9223372036854775808 ≤ x.tdiv y ∧ x.tdiv y ≤ 9223372036854775807 := by
 unfold gQuo at h; split at h
 ·cases h
 ·exact ⟨‹_›, gI_some h⟩
theorem gQuo_ok {x y : Int} (hy : y ≠ 0) (h : -9223372036854775807 ≤ x ∧ x ≤ 9223372036854775807) : gQuo x y = some (x.tdiv y) := by
 unfold gQuo
 rw [if_neg hy, Qi]
 have h := Int.natAbs_tdiv_le_natAbs x y
 omega
def Jk {α : Type} (xs : List α) (i : Int) : Option α := if 0 ≤ i then xs[i.toNat]? else none
theorem Ye {α : Type} {xs : List α} {i : Int} {x : α} (h : Jk xs i = some x) : 0 ≤ i ∧ i.toNat < xs.length ∧ xs[i.toNat]? = some x := by
 unfold Jk at h; split at h
 ·refine ⟨‹_›, ?_, h⟩
  rcases Nat.lt_or_ge i.toNat xs.length with h' | h'
  ·exact h'
  ·rw [List.getElem?_eq_none h'] at h; cases h
 ·cases h
theorem J6 {α : Type} {xs : List α} {k : Nat} (h : k < xs.length) : Jk xs (k : Int) = some xs[k] := by
 unfold Jk; rw [if_pos (by omega), Int.toNat_natCast, List.getElem?_eq_getElem h]
theorem gAt_ok {α : Type} {xs : List α} {i : Int} (h0 : 0 ≤ i) (h : i.toNat < xs.length) : Jk xs i = some xs[i.toNat] := by
 unfold Jk; rw [if_pos h0, List.getElem?_eq_getElem h]
def Q6 {α : Type} (xs : List α) (i : Int) (x : α) : Option (List α) := if 0 ≤ i ∧ i.toNat < xs.length then some (xs.set i.toNat x) else none
theorem gSet_some {α : Type} {xs ys : List α} {i : Int} {x : α} (h : Q6 xs i x = some ys) : 0 ≤ i ∧ i.toNat < xs.length ∧ ys = xs.set i.toNat x := by
 unfold Q6 at h; split at h
 ·cases h; exact ⟨‹_ ∧ _›.1, ‹_ ∧ _›.2, rfl⟩
 ·cases h
theorem Un {α : Type} {xs : List α} {i : Int} {x : α} (h0 : 0 ≤ i) (h : i.toNat < xs.length) : Q6 xs i x = some (xs.set i.toNat x) := if_pos ⟨h0, h⟩
theorem Jau {α : Type} {n : Nat} {xs ys : List α} {i : Int} {x : α} (hn : n = xs.length) (h : Q6 xs i x = some ys) : n = ys.length := by
 obtain ⟨_, _, rfl⟩ := gSet_some h; rw [List.length_set]; exact hn
def Ux {α : Type} (xs : List α) (l h : Int) : Option (List α) := if 0 ≤ l ∧ l ≤ h ∧ h ≤ xs.length then some ((xs.drop l.toNat).take (h.toNat - l.toNat)) else none
theorem Wz {α : Type} {xs ys : List α} {l h : Int} (e : Ux xs l h = some ys) : 0 ≤ l ∧ l ≤ h ∧ h ≤ xs.length ∧ ys = (xs.drop l.toNat).take (h.toNat - l.toNat) := by
 unfold Ux at e; split at e
 ·cases e; rename_i h; exact ⟨h.1, h.2.1, h.2.2, rfl⟩
 ·cases e
theorem gCut_ok {α : Type} {xs : List α} {l h : Int} (h0 : 0 ≤ l ∧ l ≤ h ∧ h ≤ xs.length) : Ux xs l h = some ((xs.drop l.toNat).take (h.toNat - l.toNat)) := if_pos h0
theorem gCut_to {α : Type} {xs : List α} {h : Int} (h0 : 0 ≤ h ∧ h ≤ xs.length) : Ux xs 0 h = some (xs.take h.toNat) := by rw [gCut_ok ⟨by omega, h0⟩]; simp
theorem gCut_from {α : Type} {xs : List α} {l : Int} (h0 : 0 ≤ l ∧ l ≤ xs.length) : Ux xs l xs.length = some (xs.drop l.toNat) := by
 rw [gCut_ok ⟨h0.1, h0.2, by omega⟩, List.take_of_length_le (by simp)]
def gOct (s : List UInt8) (i : Int) : Option Int := if 0 ≤ i then (s[i.toNat]?).map fun c => (c.toNat : Int) else none
theorem gOct_some {s : List UInt8} {i c : Int} (h : gOct s i = some c) : 0 ≤ i ∧ i < s.length ∧ c = ((s.getD i.toNat 0).toNat : Nat) := by
 unfold gOct at h; split at h
 ·rename_i h0
  rcases Nat.lt_or_ge i.toNat s.length with h' | h'
  ·rw [List.getElem?_eq_getElem h'] at h
   simp only [Option.map_some, Option.some.injEq] at h
   refine ⟨h0, by omega, ?_⟩
   rw [← h, List.getD_eq_getElem?_getD, List.getElem?_eq_getElem h']; rfl
  ·rw [List.getElem?_eq_none h'] at h; cases h
 ·cases h
theorem gOct_nat {s : List UInt8} {k : Nat} (h : k < s.length) : gOct s (k : Int) = some (s[k].toNat : Int) := by
 unfold gOct; rw [if_pos (by omega), Int.toNat_natCast, List.getElem?_eq_getElem h]; rfl
def gApp {α : Type} (by_ : Nat) (xs ys : List α) : Option (List α) := if xs.length + ys.length ≤ 140737488355328 ∧ (xs.length + ys.length) * by_ ≤ 140737488355328 then some (xs ++ ys) else none
theorem gApp_some {α : Type} {by_ : Nat} {xs ys zs : List α} (h : gApp by_ xs ys = some zs) : zs = xs ++ ys ∧ xs.length + ys.length ≤ 140737488355328 ∧ (xs.length + ys.length) * by_ ≤ 140737488355328 := by
 unfold gApp at h; split at h
 ·cases h; exact ⟨rfl, ‹_›⟩
 ·cases h
theorem W9 {α : Type} {by_ : Nat} {xs ys : List α} (h : xs.length + ys.length ≤ 140737488355328 ∧ (xs.length + ys.length) * by_ ≤ 140737488355328) : gApp by_ xs ys = some (xs ++ ys) := if_pos h
def ofStr (s : List UInt8) : List Int := s.map fun c => (c.toNat : Int)
def wU64 (x : Int) : Int := x % 18446744073709551616
def Xm (x : Int) : Int := if 9223372036854775808 ≤ x % 18446744073709551616 then x % 18446744073709551616 - 18446744073709551616 else x % 18446744073709551616
theorem wI64_in {x : Int} (h : -9223372036854775808 ≤ x ∧ x ≤ 9223372036854775807) : Xm x = x := by unfold Xm; split <;> omega
theorem wU64_in {x : Int} (h : 0 ≤ x ∧ x ≤ 18446744073709551615) : wU64 x = x := by unfold wU64; omega
def gShr (bits : Nat) (x y : Int) : Option Int := if 0 ≤ y then some (x / 2 ^ min y.toNat bits) else none
def gIx (n : Nat) (i : Int) : Option Nat := if 0 ≤ i ∧ i < n then some i.toNat else none
theorem gIx_some {n k : Nat} {i : Int} (h : gIx n i = some k) : 0 ≤ i ∧ i < n ∧ k = i.toNat := by
 unfold gIx at h; split at h
 ·cases h; rename_i h; exact ⟨h.1, h.2, rfl⟩
 ·cases h
theorem gIx_lt {n k : Nat} {i : Int} (h : gIx n i = some k) : k < n := by
 obtain ⟨h0, h1, rfl⟩ := gIx_some h; omega
theorem gIx_nat {n k : Nat} (h : k < n) : gIx n (k : Int) = some k := by unfold gIx; rw [if_pos (by omega)]; rfl
end Go.Md

/- Models of floating-point numbers: bits, read and written as the machine does. Conditions: none. -/
namespace Go.Md
open Go
end Go.Md

/- Guards: the beginning of an array, the next character of a string. Conditions: none. -/
namespace Go.Md
end Go.Md

/- Guards: a part of a row that is copied over; arrays out of slices; functions that may be nil. Conditions: none. -/
namespace Go.Md
end Go.Md

/- Models: what a strings.Builder holds. Conditions: none. -/
namespace Go.Md
end Go.Md

/- Models: bytes in strings, decimal numerals. Conditions: none. -/
namespace Go.Md
def digV (b : UInt8) : Option Nat := if 48 ≤ b.toNat ∧ b.toNat ≤ 57 then some (b.toNat - 48) else none
def Qh (acc : Nat) : List UInt8 → Option Nat
 | [] => some acc
 | b :: r => match digV b with
  | some d => Qh (acc * 10 + d) r
  | none => none
def Zy {α : Type} [DecidableEq α] (p : α) : List α → List α
 | [] => []
 | y :: l => if y = p then Zy p l else y :: Zy y l
def cmpL {α : Type} [DecidableEq α] : List α → List α
 | [] => []
 | y :: l => y :: Zy y l
def gSortI (l : List Int) : Option (List Int) := if l.length < 4611686018427387904 then some (l.mergeSort fun x y => decide (x ≤ y)) else none
def gCmpI (l : List Int) : Option (List Int) := if l.length < 4611686018427387904 then some (cmpL l) else none
def gGroC (by_ : Nat) (n : Int) : Option Nat := if 0 ≤ n ∧ n ≤ 281474976710656 ∧ by_ * n.toNat ≤ 281474976710656 then some n.toNat else none
theorem gGroC_some {by_ : Nat} {n : Int} {u : Nat} (h : gGroC by_ n = some u) : u = n.toNat ∧ 0 ≤ n ∧ n ≤ 281474976710656 ∧ by_ * n.toNat ≤ 281474976710656 := by
 unfold gGroC at h; split at h
 ·cases h; exact ⟨rfl, by assumption⟩
 ·cases h
theorem gGroC_ok {by_ : Nat} {n : Int} (h : 0 ≤ n ∧ n ≤ 281474976710656 ∧ by_ * n.toNat ≤ 281474976710656) : gGroC by_ n = some n.toNat := if_pos h
def gApC {α : Type} (c : Nat) (xs ys : List α) : Option (List α) := if xs.length + ys.length ≤ c ∧ c ≤ 9223372036854775807 then some (xs ++ ys) else none
theorem gApC_some {α : Type} {c : Nat} {xs ys zs : List α} (h : gApC c xs ys = some zs) : zs = xs ++ ys ∧ xs.length + ys.length ≤ c ∧ c ≤ 9223372036854775807 := by
 unfold gApC at h; split at h
 ·cases h; exact ⟨rfl, by assumption⟩
 ·cases h
theorem gApC_ok {α : Type} {c : Nat} {xs ys : List α} (h : xs.length + ys.length ≤ c ∧ c ≤ 9223372036854775807) : gApC c xs ys = some (xs ++ ys) := if_pos h
end Go.Md

/- Models: elements that are struck out, or move within their row. Conditions: none. -/
namespace Go.Md
def clrL {α : Type} (xs : List α) (a q : Int) (z : α) : List α := xs.take a.toNat ++ (List.replicate (q.toNat - a.toNat) z ++ xs.drop q.toNat)
theorem clrL_len {α : Type} {xs ts : List α} {a q : Int} {z : α} (g : Ux xs a q = some ts) : (clrL xs a q z).length = xs.length := by
 obtain ⟨h0, h1, h2, _⟩ := Wz g
 unfold clrL
 simp only [List.length_append, List.length_take, List.length_replicate, List.length_drop]; omega
theorem clrL_n {α : Type} {n : Nat} {xs ts : List α} {a q : Int} {z : α} (hn : n = xs.length) (g : Ux xs a q = some ts) : n = (clrL xs a q z).length := by rw [clrL_len g]; exact hn
def gByt (s : List UInt8) : Option (List Int) := if s.length ≤ 9223372036854775807 then some (ofStr s) else none
theorem gByt_some {s : List UInt8} {r : List Int} (h : gByt s = some r) : r = ofStr s ∧ s.length ≤ 9223372036854775807 := by
 unfold gByt at h; split at h
 ·cases h; exact ⟨rfl, by assumption⟩
 ·cases h
theorem gByt_ok {s : List UInt8} (h : s.length ≤ 9223372036854775807) : gByt s = some (ofStr s) := if_pos h
end Go.Md

/- Models: maps as lists of what was put in, and choices that nobody knows. Conditions: none. -/
namespace Go.Md
section
variable {κ ν : Type} [DecidableEq κ]
def mGet (xs : List (κ × ν)) (k : κ) : Option ν := (xs.find? fun p => decide (p.1 = k)).map (·.2)
def mHas (xs : List (κ × ν)) (k : κ) : Bool := xs.any fun p => decide (p.1 = k)
def mSet (xs : List (κ × ν)) (k : κ) (v : ν) : List (κ × ν) := if mHas xs k then xs.map (fun p => if p.1 = k then (k, v) else p) else xs ++ [(k, v)]
end
structure Pick {α : Type} (l : List α) (p : α) (l' : List α) : Prop where
 out : ∃ i, l[i]? = some p ∧ l' = l.eraseIdx i
theorem Pick.len {α : Type} {l l' : List α} {p : α} (h : Pick l p l') : l'.length + 1 = l.length := by
 obtain ⟨i, h1, rfl⟩ := h.out
 have hi : i < l.length := by
  rcases Nat.lt_or_ge i l.length with h | h
  ·exact h
  ·rw [List.getElem?_eq_none h] at h1; cases h1
 rw [List.length_eraseIdx_of_lt hi]; omega
theorem Pick.sub {α : Type} {l l' : List α} {p : α} (h : Pick l p l') : ∀ x ∈ l', x ∈ l := by
 obtain ⟨i, _, rfl⟩ := h.out
 exact fun x hx => List.mem_of_mem_eraseIdx hx
end Go.Md

/- Operations of models: a sort by a comparing function. Conditions: none. -/
namespace Go.Md
structure CmpOk {α : Type} (cmp : α → α → Option Int) : Prop where
 tot : ∀ x y, ∃ v, cmp x y = some v
 flip : ∀ x y, (cmp x y).getD 0 < 0 ↔ 0 < (cmp y x).getD 0
 trans : ∀ x y z, (cmp x y).getD 0 ≤ 0 → (cmp y z).getD 0 ≤ 0 → (cmp x z).getD 0 ≤ 0
 anti : ∀ x y, (cmp x y).getD 0 = 0 → x = y
def leC {α : Type} (cmp : α → α → Option Int) (x y : α) : Bool := decide ((cmp x y).getD 0 ≤ 0)
open Classical in
noncomputable def gSortF {α : Type} (l : List α) (cmp : α → α → Option Int) : Option (List α) := if l.length < 4611686018427387904 ∧ CmpOk cmp then some (l.mergeSort (leC cmp)) else none
theorem sorted_unique {α : Type} {le : α → α → Bool} (anti : ∀ x y, le x y = true → le y x = true → x = y) : ∀ {a b : List α}, a.Perm b → a.Pairwise (fun x y => le x y = true) → b.Pairwise (fun x y => le x y = true) → (∀ x, le x x = true) → a = b
 | [], b, p, _, _, _ => (List.nil_perm.1 p).symm
 | x :: a, [], p, _, _, _ => by have := p.length_eq; simp at this
 | x :: a, y :: b, p, ha, hb, hr => by
  have hxy : x = y := by
   have h1 : x ∈ y :: b := p.mem_iff.1 (by simp)
   have h2 : y ∈ x :: a := p.mem_iff.2 (by simp)
   refine anti x y ?_ ?_
   ·rcases List.mem_cons.1 h2 with h | h
    ·rw [h]; exact hr x
    ·exact (List.pairwise_cons.1 ha).1 y h
   ·rcases List.mem_cons.1 h1 with h | h
    ·rw [h]; exact hr y
    ·exact (List.pairwise_cons.1 hb).1 x h
  subst hxy
  rw [sorted_unique anti ((List.perm_cons x).1 p) (List.pairwise_cons.1 ha).2 (List.pairwise_cons.1 hb).2 hr]
section
variable {α : Type} {cmp : α → α → Option Int}
theorem CmpOk.refl (c : CmpOk cmp) (x : α) : leC cmp x x = true := by
 have := c.flip x x
 unfold leC; simp; omega
theorem CmpOk.total (c : CmpOk cmp) (x y : α) : (leC cmp x y || leC cmp y x) = true := by
 have := c.flip x y
 have h2 := c.flip y x
 unfold leC; simp; omega
theorem CmpOk.antisymm (c : CmpOk cmp) (x y : α) (h1 : leC cmp x y = true) (h2 : leC cmp y x = true) : x = y := by
 have f1 := c.flip x y
 have f2 := c.flip y x
 unfold leC at h1 h2
 simp at h1 h2
 exact c.anti x y (by omega)
theorem CmpOk.letrans (c : CmpOk cmp) (x y z : α) (h1 : leC cmp x y = true) (h2 : leC cmp y z = true) : leC cmp x z = true := by
 unfold leC at *
 simp at *
 exact c.trans x y z h1 h2
theorem sortF_is (c : CmpOk cmp) {l d : List α} (p : d.Perm l) (h : d.Pairwise fun x y => leC cmp x y = true) : d = l.mergeSort (leC cmp) :=
 sorted_unique c.antisymm (p.trans (List.mergeSort_perm l _).symm) h (List.pairwise_mergeSort (le := leC cmp) c.letrans c.total l) c.refl
end
def delL {α : Type} (xs : List α) (i j : Int) : List α := xs.take i.toNat ++ xs.drop j.toNat
def gDelN {α : Type} (xs : List α) (i j : Int) : Option (List α) := if 0 ≤ i ∧ i ≤ j ∧ j ≤ xs.length then some (delL xs i j) else none
theorem gDelN_some {α : Type} {xs ys : List α} {i j : Int} (h : gDelN xs i j = some ys) : ys = delL xs i j ∧ 0 ≤ i ∧ i ≤ j ∧ j ≤ xs.length := by
 unfold gDelN at h; split at h
 ·cases h; exact ⟨rfl, ‹_›⟩
 ·cases h
theorem gDelN_ok {α : Type} {xs : List α} {i j : Int} (h : 0 ≤ i ∧ i ≤ j ∧ j ≤ xs.length) : gDelN xs i j = some (delL xs i j) := if_pos h
def Wo {α : Type} (xs : List α) (i : Int) (x : α) : List α := xs.take i.toNat ++ ([x] ++ xs.drop i.toNat)
def gInsN {α : Type} (by_ : Nat) (xs : List α) (i : Int) (x : α) : Option (List α) := if 0 ≤ i ∧ i ≤ xs.length ∧ (xs.length + 1) * by_ ≤ 140737488355328 ∧ xs.length + 1 ≤ 140737488355328 then some (Wo xs i x) else none
theorem gInsN_some {α : Type} {by_ : Nat} {xs ys : List α} {i : Int} {x : α} (h : gInsN by_ xs i x = some ys) : ys = Wo xs i x ∧ 0 ≤ i ∧ i ≤ xs.length ∧ (xs.length + 1) * by_ ≤ 140737488355328 ∧ xs.length + 1 ≤ 140737488355328 := by
 unfold gInsN at h; split at h
 ·cases h; exact ⟨rfl, ‹_›⟩
 ·cases h
theorem gInsN_ok {α : Type} {by_ : Nat} {xs : List α} {i : Int} {x : α} (h : 0 ≤ i ∧ i ≤ xs.length ∧ (xs.length + 1) * by_ ≤ 140737488355328 ∧ xs.length + 1 ≤ 140737488355328) : gInsN by_ xs i x = some (Wo xs i x) := if_pos h
end Go.Md

/- Operations of models: a sort by a number that each element has for itself. Conditions: none. -/
namespace Go.Md
open Classical in
noncomputable def gSortP {α : Type} (l : List α) (key : α → Int) : Option (List α) := if l.length < 4611686018427387904 ∧ (∀ x ∈ l, -1000000000000000000 ≤ key x ∧ key x ≤ 1000000000000000000) ∧ (l.map key).Nodup then some (l.mergeSort fun x y => decide (key x ≤ key y)) else none
theorem gSortP_some {α : Type} {l r : List α} {key : α → Int} (h : gSortP l key = some r) : r = l.mergeSort (fun x y => decide (key x ≤ key y)) ∧ l.length < 4611686018427387904 ∧ (∀ x ∈ l, -1000000000000000000 ≤ key x ∧ key x ≤ 1000000000000000000) ∧ (l.map key).Nodup := by
 unfold gSortP at h; split at h
 ·cases h; exact ⟨rfl, ‹_›⟩
 ·cases h
theorem gSortP_ok {α : Type} {l : List α} {key : α → Int} (h : l.length < 4611686018427387904 ∧ (∀ x ∈ l, -1000000000000000000 ≤ key x ∧ key x ≤ 1000000000000000000) ∧ (l.map key).Nodup) : gSortP l key = some (l.mergeSort fun x y => decide (key x ≤ key y)) := if_pos h
theorem gSortP_len {α : Type} {l r : List α} {key : α → Int} (h : gSortP l key = some r) : r.length = l.length := by
 rw [(gSortP_some h).1, List.length_mergeSort]
end Go.Md
