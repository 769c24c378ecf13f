/- Guards: the beginning of an array, the next character of a string. Conditions: none. -/
import Derived.Test.YthhaabhnlndnoaaGreatFl
namespace Go.Md

/-- The beginning of an array, as a list. -/
def gCutA {α : Type} (n : Nat) (f : Nat → α) (q : Int) : Option (List α) := if 0 ≤ q ∧ q ≤ n then some ((List.range q.toNat).map f) else none
theorem gCutA_some {α : Type} {n : Nat} {f : Nat → α} {q : Int} {l : List α} (h : gCutA n f q = some l) : 0 ≤ q ∧ q ≤ n ∧ l = (List.range q.toNat).map f := by
  unfold gCutA at h; split at h
  · rename_i hh; cases h; exact ⟨hh.1, hh.2, rfl⟩
  · cases h
theorem gCutA_ok {α : Type} {n : Nat} {f : Nat → α} {q : Int} (h : 0 ≤ q ∧ q ≤ n) : gCutA n f q = some ((List.range q.toNat).map f) := if_pos h

/-- The next character of a string, if it is ASCII. -/
def gNx (s : List UInt8) (k : Nat) : Option Int := match s[k]? with | some c => if c.toNat < 128 then some (c.toNat : Int) else none | none => none
theorem gNx_some {s : List UInt8} {k : Nat} {c : Int} (h : gNx s k = some c) : ∃ hk : k < s.length, (s[k]).toNat < 128 ∧ c = ((s[k]).toNat : Nat) := by
  unfold gNx at h; split at h
  · rename_i u hu
    obtain ⟨hk, rfl⟩ := List.getElem?_eq_some_iff.1 hu
    split at h
    · rename_i h2; cases h; exact ⟨hk, h2, rfl⟩
    · cases h
  · cases h
theorem gNx_ok {s : List UInt8} {k : Nat} (hk : k < s.length) (h : (s[k]).toNat < 128) : gNx s k = some ((s[k]).toNat : Int) := by
  unfold gNx; rw [List.getElem?_eq_getElem hk]; exact if_pos h

/-- A character as a string, if it is ASCII. -/
def gRune (x : Int) : Option (List UInt8) := if 0 ≤ x ∧ x < 128 then some [x.toNat.toUInt8] else none
theorem gRune_some {x : Int} {s : List UInt8} (h : gRune x = some s) : 0 ≤ x ∧ x < 128 ∧ s = [x.toNat.toUInt8] := by
  unfold gRune at h; split at h
  · rename_i hh; cases h; exact ⟨hh.1, hh.2, rfl⟩
  · cases h
theorem gRune_ok {x : Int} (h : 0 ≤ x ∧ x < 128) : gRune x = some [x.toNat.toUInt8] := if_pos h

/-- Strings in their order. -/
def ltB : List UInt8 → List UInt8 → Bool
  | [], [] => false
  | [], _ :: _ => true
  | _ :: _, [] => false
  | a :: as, b :: bs => a < b || (a == b && ltB as bs)

end Go.Md
