/- Models: bytes in strings, decimal numerals. Conditions: none. -/
import Derived.Test.YthhaabhnlndnoaaGreatMd4
namespace Go.Md

/-- Where an octet first stands; -1: nowhere. -/
def ixB : List UInt8 → UInt8 → Int
  | [], _ => -1
  | b :: l, c => if b = c then 0 else if ixB l c = -1 then -1 else ixB l c + 1
/-- internal/bytealg.IndexByteString. -/
def gIxB (s : List UInt8) (c : Int) : Option Int := some (ixB s c.toNat.toUInt8)
/-- internal/bytealg.CountString. -/
def gCnB (s : List UInt8) (c : Int) : Option Int := some (s.count c.toNat.toUInt8 : Nat)

/-- The digits of a number. -/
def decD (u : Nat) : List UInt8 :=
  if u < 10 then [UInt8.ofNat (48 + u)] else decD (u / 10) ++ [UInt8.ofNat (48 + u % 10)]
termination_by u
decreasing_by omega
def itoaL (n : Int) : List UInt8 := if n < 0 then 45 :: decD n.natAbs else decD n.toNat
/-- strconv.Itoa. -/
def gItoa (n : Int) : Option (List UInt8) := if -9223372036854775808 ≤ n ∧ n ≤ 9223372036854775807 then some (itoaL n) else none

def digV (b : UInt8) : Option Nat := if 48 ≤ b.toNat ∧ b.toNat ≤ 57 then some (b.toNat - 48) else none
def decF (acc : Nat) : List UInt8 → Option Nat
  | [] => some acc
  | b :: r => match digV b with
    | some d => decF (acc * 10 + d) r
    | none => none
def decN (l : List UInt8) : Option Nat := if l.isEmpty then none else decF 0 l
def atoiL : List UInt8 → Option Int
  | [] => none
  | b :: r =>
    if b == 45 then (decN r).map fun (m : Nat) => -(m : Int)
    else if b == 43 then (decN r).map fun (m : Nat) => (m : Int)
    else (decN (b :: r)).map fun (m : Nat) => (m : Int)
/-- strconv.Atoi, where it succeeds. -/
def gAtoi (s : List UInt8) : Option Int := if s.length ≤ 18 then atoiL s else none

/-- strings.Repeat. -/
def gRep (s : List UInt8) (n : Int) : Option (List UInt8) := if 0 ≤ n ∧ n ≤ 9223372036854775807 ∧ s.length * n.toNat ≤ 140737488355328 then some (List.replicate n.toNat s).flatten else none
/-- strings.Join. -/
def gJoin (l : List (List UInt8)) (sep : List UInt8) : Option (List UInt8) := if l.length ≤ 140737488355328 ∧ (sep.intercalate l).length ≤ 140737488355328 then some (sep.intercalate l) else none

/-- slices.Compact: of elements that stand together and are equal the first one stays. -/
def cmpFrom {α : Type} [DecidableEq α] (p : α) : List α → List α
  | [] => []
  | y :: l => if y = p then cmpFrom p l else y :: cmpFrom y l
def cmpL {α : Type} [DecidableEq α] : List α → List α
  | [] => []
  | y :: l => y :: cmpFrom y l
/-- slices.Sort at []int. -/
def gSortI (l : List Int) : Option (List Int) := if l.length < 4611686018427387904 then some (l.mergeSort fun x y => decide (x ≤ y)) else none
/-- slices.Sort at []string. -/
def gSortS (l : List (List UInt8)) : Option (List (List UInt8)) := if l.length < 4611686018427387904 then some (l.mergeSort fun x y => decide (x ≤ y)) else none
def gCmpS (l : List (List UInt8)) : Option (List (List UInt8)) := if l.length < 4611686018427387904 then some (cmpL l) else none
def gCmpI (l : List Int) : Option (List Int) := if l.length < 4611686018427387904 then some (cmpL l) else none

/-- slices.Grow of the nil slice: a row with room for so many. -/
def gGroC (by_ : Nat) (n : Int) : Option Nat := if 0 ≤ n ∧ n ≤ 281474976710656 ∧ by_ * n.toNat ≤ 281474976710656 then some n.toNat else none
theorem gGroC_some {by_ : Nat} {n : Int} {u : Nat} (h : gGroC by_ n = some u) : u = n.toNat ∧ 0 ≤ n ∧ n ≤ 281474976710656 ∧ by_ * n.toNat ≤ 281474976710656 := by
  unfold gGroC at h; split at h
  · cases h; exact ⟨rfl, by assumption⟩
  · cases h
theorem gGroC_ok {by_ : Nat} {n : Int} (h : 0 ≤ n ∧ n ≤ 281474976710656 ∧ by_ * n.toNat ≤ 281474976710656) : gGroC by_ n = some n.toNat := if_pos h
/-- append within the room that there is. -/
def gApC {α : Type} (c : Nat) (xs ys : List α) : Option (List α) := if xs.length + ys.length ≤ c ∧ c ≤ 9223372036854775807 then some (xs ++ ys) else none
theorem gApC_some {α : Type} {c : Nat} {xs ys zs : List α} (h : gApC c xs ys = some zs) : zs = xs ++ ys ∧ xs.length + ys.length ≤ c ∧ c ≤ 9223372036854775807 := by
  unfold gApC at h; split at h
  · cases h; exact ⟨rfl, by assumption⟩
  · cases h
theorem gApC_ok {α : Type} {c : Nat} {xs ys : List α} (h : xs.length + ys.length ≤ c ∧ c ≤ 9223372036854775807) : gApC c xs ys = some (xs ++ ys) := if_pos h
end Go.Md

/- Models: elements that are struck out, or move within their row. Conditions: none. -/
namespace Go.Md

/-- Elements that are struck out. -/
def clrL {α : Type} (xs : List α) (a q : Int) (z : α) : List α := xs.take a.toNat ++ (List.replicate (q.toNat - a.toNat) z ++ xs.drop q.toNat)
theorem clrL_len {α : Type} {xs ts : List α} {a q : Int} {z : α} (g : gCut xs a q = some ts) : (clrL xs a q z).length = xs.length := by
  obtain ⟨h0, h1, h2, _⟩ := gCut_some g
  unfold clrL
  simp only [List.length_append, List.length_take, List.length_replicate, List.length_drop]; omega
theorem clrL_n {α : Type} {n : Nat} {xs ts : List α} {a q : Int} {z : α} (hn : n = xs.length) (g : gCut xs a q = some ts) : n = (clrL xs a q z).length := by rw [clrL_len g]; exact hn

/-- Elements that move within their row. -/
def gApR {α : Type} (xs ys zs : List α) : Option (List α) := if ys.length + zs.length ≤ xs.length then some (ys ++ zs) else none
theorem gApR_some {α : Type} {xs ys zs r : List α} (h : gApR xs ys zs = some r) : r = ys ++ zs ∧ ys.length + zs.length ≤ xs.length := by
  unfold gApR at h; split at h
  · cases h; exact ⟨rfl, by assumption⟩
  · cases h
theorem gApR_ok {α : Type} {xs ys zs : List α} (h : ys.length + zs.length ≤ xs.length) : gApR xs ys zs = some (ys ++ zs) := if_pos h


/-- append of something. -/
def gApN {α : Type} (by_ : Nat) (xs ys : List α) : Option (List α) := if ys.length ≠ 0 ∧ xs.length + ys.length ≤ 140739635838976 ∧ (xs.length + ys.length) * by_ ≤ 140739635838976 then some (xs ++ ys) else none
theorem gApN_some {α : Type} {by_ : Nat} {xs ys zs : List α} (h : gApN by_ xs ys = some zs) : zs = xs ++ ys ∧ ys ≠ [] ∧ xs.length + ys.length ≤ 140739635838976 ∧ (xs.length + ys.length) * by_ ≤ 140739635838976 := by
  unfold gApN at h; split at h
  · rename_i hh; cases h; exact ⟨rfl, fun e => hh.1 (by rw [e]; rfl), hh.2⟩
  · cases h
theorem gApN_ok {α : Type} {by_ : Nat} {xs ys : List α} (h : ys.length ≠ 0 ∧ xs.length + ys.length ≤ 140739635838976 ∧ (xs.length + ys.length) * by_ ≤ 140739635838976) : gApN by_ xs ys = some (xs ++ ys) := if_pos h

/-- A string's octets, as a row. -/
def gByt (s : List UInt8) : Option (List Int) := if s.length ≤ 9223372036854775807 then some (ofStr s) else none
theorem gByt_some {s : List UInt8} {r : List Int} (h : gByt s = some r) : r = ofStr s ∧ s.length ≤ 9223372036854775807 := by
  unfold gByt at h; split at h
  · cases h; exact ⟨rfl, by assumption⟩
  · cases h
theorem gByt_ok {s : List UInt8} (h : s.length ≤ 9223372036854775807) : gByt s = some (ofStr s) := if_pos h
end Go.Md
