/- Models: maps as lists of what was put in, and choices that nobody knows. Conditions: none. -/
import Derived.Test.YthhaabhnlndnoaaGreatMd5
namespace Go.Md

/-! ### maps: keys with values, each key once -/
section
variable {κ ν : Type} [DecidableEq κ]
def mGet (xs : List (κ × ν)) (k : κ) : Option ν := (xs.find? fun p => decide (p.1 = k)).map (·.2)
def mHas (xs : List (κ × ν)) (k : κ) : Bool := xs.any fun p => decide (p.1 = k)
def mSet (xs : List (κ × ν)) (k : κ) (v : ν) : List (κ × ν) := if mHas xs k then xs.map (fun p => if p.1 = k then (k, v) else p) else xs ++ [(k, v)]
def mDel (xs : List (κ × ν)) (k : κ) : List (κ × ν) := xs.filter fun p => decide (p.1 ≠ k)
end

/-! ### one of a list, whichever, and the others -/
structure Pick {α : Type} (l : List α) (p : α) (l' : List α) : Prop where
  out : ∃ i, l[i]? = some p ∧ l' = l.eraseIdx i

theorem Pick.mem {α : Type} {l l' : List α} {p : α} (h : Pick l p l') : p ∈ l := by
  obtain ⟨i, h1, _⟩ := h.out
  exact List.mem_of_getElem? h1
theorem Pick.len {α : Type} {l l' : List α} {p : α} (h : Pick l p l') : l'.length + 1 = l.length := by
  obtain ⟨i, h1, rfl⟩ := h.out
  have hi : i < l.length := by
    rcases Nat.lt_or_ge i l.length with h | h
    · exact h
    · rw [List.getElem?_eq_none h] at h1; cases h1
  rw [List.length_eraseIdx_of_lt hi]; omega
theorem Pick.sub {α : Type} {l l' : List α} {p : α} (h : Pick l p l') : ∀ x ∈ l', x ∈ l := by
  obtain ⟨i, _, rfl⟩ := h.out
  exact fun x hx => List.mem_of_mem_eraseIdx hx
theorem Pick.perm {α : Type} {l l' : List α} {p : α} (h : Pick l p l') : l.Perm (p :: l') := by
  obtain ⟨i, h1, rfl⟩ := h.out
  clear h
  induction l generalizing i with
  | nil => simp at h1
  | cons x l ih =>
    cases i with
    | zero => simp at h1; subst h1; exact List.Perm.refl _
    | succ i =>
      simp at h1
      rw [List.eraseIdx_cons_succ]
      exact (List.Perm.cons x (ih i h1)).trans (List.Perm.swap p x _)

open Classical in
/-- What comes out whichever is taken first. -/
noncomputable def gAll {α ρ : Type} (l : List α) (K : α → List α → Option ρ) : Option ρ :=
  if h : ∃ r, ∀ p l', Pick l p l' → K p l' = some r then some (Classical.choose h) else none
theorem gAll_some {α ρ : Type} {l l' : List α} {K : α → List α → Option ρ} {r : ρ} {p : α} (h : gAll l K = some r) (hp : Pick l p l') : K p l' = some r := by
  unfold gAll at h
  split at h
  · rename_i hx
    rw [Classical.choose_spec hx p l' hp]; exact h
  · cases h
theorem gAll_ok {α ρ : Type} {l : List α} {K : α → List α → Option ρ} {r : ρ} (h : ∀ p l', Pick l p l' → K p l' = some r) (hl : l ≠ []) : gAll l K = some r := by
  have hx : ∃ r, ∀ p l', Pick l p l' → K p l' = some r := ⟨r, h⟩
  unfold gAll
  rw [dif_pos hx]
  obtain ⟨p, l', rfl⟩ := List.exists_cons_of_ne_nil hl
  have hp : Pick (p :: l') p l' := ⟨0, by simp, by simp⟩
  rw [← h p l' hp, Classical.choose_spec hx p l' hp]

/-- One octet more, in a builder. -/
def gBldB (a : List UInt8) (c : Int) : Option (List UInt8) := if 0 ≤ c ∧ c ≤ 255 ∧ a.length + 1 ≤ 140737488355328 then some (a ++ [UInt8.ofNat c.toNat]) else none
theorem gBldB_some {a r : List UInt8} {c : Int} (h : gBldB a c = some r) : r = a ++ [UInt8.ofNat c.toNat] ∧ 0 ≤ c ∧ c ≤ 255 ∧ a.length + 1 ≤ 140737488355328 := by
  unfold gBldB at h; split at h
  · cases h; exact ⟨rfl, ‹_›⟩
  · cases h
theorem gBldB_ok {a : List UInt8} {c : Int} (h : 0 ≤ c ∧ c ≤ 255 ∧ a.length + 1 ≤ 140737488355328) : gBldB a c = some (a ++ [UInt8.ofNat c.toNat]) := if_pos h
theorem ofStr_snoc (a : List UInt8) {c : Int} (h0 : 0 ≤ c) (h1 : c ≤ 255) : ofStr (a ++ [UInt8.ofNat c.toNat]) = ofStr a ++ [c] := by
  unfold ofStr
  rw [List.map_append]
  have : ((UInt8.ofNat c.toNat).toNat : Int) = c := by
    rw [UInt8.toNat_ofNat']; omega
  rw [List.map_cons, List.map_nil, this]
end Go.Md

/- Operations of models: a sort by a comparing function. Conditions: none. -/
namespace Go.Md

/-- What a comparing function must be: total, and an order in which equals are the same. -/
structure CmpOk {α : Type} (cmp : α → α → Option Int) : Prop where
  tot : ∀ x y, ∃ v, cmp x y = some v
  flip : ∀ x y, (cmp x y).getD 0 < 0 ↔ 0 < (cmp y x).getD 0
  trans : ∀ x y z, (cmp x y).getD 0 ≤ 0 → (cmp y z).getD 0 ≤ 0 → (cmp x z).getD 0 ≤ 0
  anti : ∀ x y, (cmp x y).getD 0 = 0 → x = y

def leC {α : Type} (cmp : α → α → Option Int) (x y : α) : Bool := decide ((cmp x y).getD 0 ≤ 0)

open Classical in
/-- slices.SortFunc. -/
noncomputable def gSortF {α : Type} (l : List α) (cmp : α → α → Option Int) : Option (List α) := if l.length < 4611686018427387904 ∧ CmpOk cmp then some (l.mergeSort (leC cmp)) else none

theorem sorted_unique {α : Type} {le : α → α → Bool} (anti : ∀ x y, le x y = true → le y x = true → x = y) : ∀ {a b : List α}, a.Perm b → a.Pairwise (fun x y => le x y = true) → b.Pairwise (fun x y => le x y = true) → (∀ x, le x x = true) → a = b
  | [], b, p, _, _, _ => (List.nil_perm.1 p).symm
  | x :: a, [], p, _, _, _ => by have := p.length_eq; simp at this
  | x :: a, y :: b, p, ha, hb, hr => by
    have hxy : x = y := by
      have h1 : x ∈ y :: b := p.mem_iff.1 (by simp)
      have h2 : y ∈ x :: a := p.mem_iff.2 (by simp)
      refine anti x y ?_ ?_
      · rcases List.mem_cons.1 h2 with h | h
        · rw [h]; exact hr x
        · exact (List.pairwise_cons.1 ha).1 y h
      · rcases List.mem_cons.1 h1 with h | h
        · rw [h]; exact hr y
        · exact (List.pairwise_cons.1 hb).1 x h
    subst hxy
    rw [sorted_unique anti ((List.perm_cons x).1 p) (List.pairwise_cons.1 ha).2 (List.pairwise_cons.1 hb).2 hr]

section
variable {α : Type} {cmp : α → α → Option Int}
theorem CmpOk.refl (c : CmpOk cmp) (x : α) : leC cmp x x = true := by
  have := c.flip x x
  unfold leC; simp; omega
theorem CmpOk.total (c : CmpOk cmp) (x y : α) : (leC cmp x y || leC cmp y x) = true := by
  have := c.flip x y
  have h2 := c.flip y x
  unfold leC; simp; omega
theorem CmpOk.antisymm (c : CmpOk cmp) (x y : α) (h1 : leC cmp x y = true) (h2 : leC cmp y x = true) : x = y := by
  have f1 := c.flip x y
  have f2 := c.flip y x
  unfold leC at h1 h2
  simp at h1 h2
  exact c.anti x y (by omega)
theorem CmpOk.letrans (c : CmpOk cmp) (x y z : α) (h1 : leC cmp x y = true) (h2 : leC cmp y z = true) : leC cmp x z = true := by
  unfold leC at *
  simp at *
  exact c.trans x y z h1 h2
theorem sortF_is (c : CmpOk cmp) {l d : List α} (p : d.Perm l) (h : d.Pairwise fun x y => leC cmp x y = true) : d = l.mergeSort (leC cmp) :=
  sorted_unique c.antisymm (p.trans (List.mergeSort_perm l _).symm) h (List.pairwise_mergeSort (le := leC cmp) c.letrans c.total l) c.refl
end
/-! ### slices.Delete, slices.Insert of one -/
def delL {α : Type} (xs : List α) (i j : Int) : List α := xs.take i.toNat ++ xs.drop j.toNat
def gDelN {α : Type} (xs : List α) (i j : Int) : Option (List α) := if 0 ≤ i ∧ i ≤ j ∧ j ≤ xs.length then some (delL xs i j) else none
theorem gDelN_some {α : Type} {xs ys : List α} {i j : Int} (h : gDelN xs i j = some ys) : ys = delL xs i j ∧ 0 ≤ i ∧ i ≤ j ∧ j ≤ xs.length := by
  unfold gDelN at h; split at h
  · cases h; exact ⟨rfl, ‹_›⟩
  · cases h
theorem gDelN_ok {α : Type} {xs : List α} {i j : Int} (h : 0 ≤ i ∧ i ≤ j ∧ j ≤ xs.length) : gDelN xs i j = some (delL xs i j) := if_pos h
def insL {α : Type} (xs : List α) (i : Int) (x : α) : List α := xs.take i.toNat ++ ([x] ++ xs.drop i.toNat)
def gInsN {α : Type} (by_ : Nat) (xs : List α) (i : Int) (x : α) : Option (List α) := if 0 ≤ i ∧ i ≤ xs.length ∧ (xs.length + 1) * by_ ≤ 140737488355328 ∧ xs.length + 1 ≤ 140737488355328 then some (insL xs i x) else none
theorem gInsN_some {α : Type} {by_ : Nat} {xs ys : List α} {i : Int} {x : α} (h : gInsN by_ xs i x = some ys) : ys = insL xs i x ∧ 0 ≤ i ∧ i ≤ xs.length ∧ (xs.length + 1) * by_ ≤ 140737488355328 ∧ xs.length + 1 ≤ 140737488355328 := by
  unfold gInsN at h; split at h
  · cases h; exact ⟨rfl, ‹_›⟩
  · cases h
theorem gInsN_ok {α : Type} {by_ : Nat} {xs : List α} {i : Int} {x : α} (h : 0 ≤ i ∧ i ≤ xs.length ∧ (xs.length + 1) * by_ ≤ 140737488355328 ∧ xs.length + 1 ≤ 140737488355328) : gInsN by_ xs i x = some (insL xs i x) := if_pos h
end Go.Md
