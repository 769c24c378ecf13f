/- Models: elements that are struck out, or move within their row. Conditions: none. -/
import Derived.Test.YtdledeeihcilbaaMd5
namespace Go.Md

/-- Elements that are struck out. -/
def clrL {α : Type} (xs : List α) (a q : Int) (z : α) : List α := xs.take a.toNat ++ (List.replicate (q.toNat - a.toNat) z ++ xs.drop q.toNat)
theorem clrL_len {α : Type} {xs ts : List α} {a q : Int} {z : α} (g : gCut xs a q = some ts) : (clrL xs a q z).length = xs.length := by
  obtain ⟨h0, h1, h2, _⟩ := gCut_some g
  unfold clrL
  simp only [List.length_append, List.length_take, List.length_replicate, List.length_drop]; omega
theorem clrL_n {α : Type} {n : Nat} {xs ts : List α} {a q : Int} {z : α} (hn : n = xs.length) (g : gCut xs a q = some ts) : n = (clrL xs a q z).length := by rw [clrL_len g]; exact hn

/-- Elements that move within their row. -/
def gApR {α : Type} (xs ys zs : List α) : Option (List α) := if ys.length + zs.length ≤ xs.length then some (ys ++ zs) else none
theorem gApR_some {α : Type} {xs ys zs r : List α} (h : gApR xs ys zs = some r) : r = ys ++ zs ∧ ys.length + zs.length ≤ xs.length := by
  unfold gApR at h; split at h
  · cases h; exact ⟨rfl, by assumption⟩
  · cases h
theorem gApR_ok {α : Type} {xs ys zs : List α} (h : ys.length + zs.length ≤ xs.length) : gApR xs ys zs = some (ys ++ zs) := if_pos h


/-- append of something. -/
def gApN {α : Type} (by_ : Nat) (xs ys : List α) : Option (List α) := if ys.length ≠ 0 ∧ xs.length + ys.length ≤ 140739635838976 ∧ (xs.length + ys.length) * by_ ≤ 140739635838976 then some (xs ++ ys) else none
theorem gApN_some {α : Type} {by_ : Nat} {xs ys zs : List α} (h : gApN by_ xs ys = some zs) : zs = xs ++ ys ∧ ys ≠ [] ∧ xs.length + ys.length ≤ 140739635838976 ∧ (xs.length + ys.length) * by_ ≤ 140739635838976 := by
  unfold gApN at h; split at h
  · rename_i hh; cases h; exact ⟨rfl, fun e => hh.1 (by rw [e]; rfl), hh.2⟩
  · cases h
theorem gApN_ok {α : Type} {by_ : Nat} {xs ys : List α} (h : ys.length ≠ 0 ∧ xs.length + ys.length ≤ 140739635838976 ∧ (xs.length + ys.length) * by_ ≤ 140739635838976) : gApN by_ xs ys = some (xs ++ ys) := if_pos h

/-- A string's octets, as a row. -/
def gByt (s : List UInt8) : Option (List Int) := if s.length ≤ 9223372036854775807 then some (ofStr s) else none
theorem gByt_some {s : List UInt8} {r : List Int} (h : gByt s = some r) : r = ofStr s ∧ s.length ≤ 9223372036854775807 := by
  unfold gByt at h; split at h
  · cases h; exact ⟨rfl, by assumption⟩
  · cases h
theorem gByt_ok {s : List UInt8} (h : s.length ≤ 9223372036854775807) : gByt s = some (ofStr s) := if_pos h
end Go.Md
