/- Models: elements that are struck out, or move within their row. Conditions: none. -/
import Derived.Test.YtllnhnnpmmnomaaMd5
namespace Go.Md

/-- Elements that are struck out. -/
def clrL {α : Type} (xs : List α) (a q : Int) (z : α) : List α := xs.take a.toNat ++ (List.replicate (q.toNat - a.toNat) z ++ xs.drop q.toNat)
theorem clrL_len {α : Type} {xs ts : List α} {a q : Int} {z : α} (g : gCut xs a q = some ts) : (clrL xs a q z).length = xs.length := by
  obtain ⟨h0, h1, h2, _⟩ := gCut_some g
  unfold clrL
  simp only [List.length_append, List.length_take, List.length_replicate, List.length_drop]; omega
theorem clrL_n {α : Type} {n : Nat} {xs ts : List α} {a q : Int} {z : α} (hn : n = xs.length) (g : gCut xs a q = some ts) : n = (clrL xs a q z).length := by rw [clrL_len g]; exact hn

/-- Elements that move within their row. -/
def gApR {α : Type} (xs ys zs : List α) : Option (List α) := if ys.length + zs.length ≤ xs.length then some (ys ++ zs) else none
theorem gApR_some {α : Type} {xs ys zs r : List α} (h : gApR xs ys zs = some r) : r = ys ++ zs ∧ ys.length + zs.length ≤ xs.length := by
  unfold gApR at h; split at h
  · cases h; exact ⟨rfl, by assumption⟩
  · cases h
theorem gApR_ok {α : Type} {xs ys zs : List α} (h : ys.length + zs.length ≤ xs.length) : gApR xs ys zs = some (ys ++ zs) := if_pos h

end Go.Md
