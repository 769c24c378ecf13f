/- Guards: a part of a row that is copied over; arrays out of slices; functions that may be nil. Conditions: none. -/
import Derived.Test.YthhaabhnlndnoaaGreatMd2
namespace Go.Md

/-- What copy makes of a list, from the place a on, where there is room for m elements. -/
def cpyL {α : Type} (xs : List α) (a : Int) (m : Nat) (ys : List α) : List α := xs.take a.toNat ++ (ys.take m ++ xs.drop (a.toNat + min m ys.length))

theorem cpyL_len {α : Type} {xs ys : List α} {a : Int} {m : Nat} (h : a.toNat + m ≤ xs.length) : (cpyL xs a m ys).length = xs.length := by
  unfold cpyL
  simp only [List.length_append, List.length_take, List.length_drop]; omega
theorem cpyL_n {α : Type} {n : Nat} {xs ts ys : List α} {a q : Int} (hn : n = xs.length) (h : gCut xs a q = some ts) : n = (cpyL xs a ts.length ys).length := by
  obtain ⟨h0, h1, h2, rfl⟩ := gCut_some h
  rw [cpyL_len]
  · exact hn
  · rw [List.length_take, List.length_drop]; omega
theorem cpyL_none {α : Type} (xs : List α) (a : Int) (m : Nat) : cpyL xs a m [] = xs := by simp [cpyL]

/-- A function that may be nil. -/
def gFn {μ : Type} (m : Option μ) : Option μ := m
theorem gFn_some {μ : Type} {m : Option μ} {g : μ} (h : gFn m = some g) : m = some g := h

end Go.Md
