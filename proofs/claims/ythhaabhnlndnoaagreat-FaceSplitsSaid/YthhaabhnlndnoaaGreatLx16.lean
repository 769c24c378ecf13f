/- The kit's contracts of slices.Sort at rows of one's own: the row is sorted in place. Conditions: the row is shorter than 2^62. -/
import Derived.Test.YthhaabhnlndnoaaGreatLx15
import Derived.Test.YthhaabhnlndnoaaGreatMd5
import Derived.Shelf.Sort.Plain
import Derived.Shelf.Slices.In.SortNone
import Derived.Sort.OwnSortedInts
namespace Go.Vc
open Go Go.Md Go.Shelf Go.Sort Go.Proofs

theorem flat1 {α : Type} (f : α → Value) (l : List α) : (l.map fun x => [f x]).flatten = l.map f := by
  induction l with
  | nil => rfl
  | cons x l ih => simp [ih]

theorem sort_ints {P : Program} {ρ : Ren} (Ly : Lays.n189 P ρ) {E : TypeId} {a0 r : List Int} {p0 : Option Addr × Nat} {n0 : Nat} {w : World} {S : Nat → Prop}
    (hcs : (rowV E 1 (.slice p0.1 n0 p0.2) n0 (a0.map fun x => [.int .i64 x])).P S w) (hlt : ∀ b, S b → b < w.heap.size) (hn0 : n0 = a0.length) (H : gSortI a0 = some r) :
    Does P (ρ.f 189) (List.toArray [.slice p0.1 n0 p0.2]) w (fun v w' => ∃ _ : Unit, v = .tuple #[] ∧ Turn w w' S (rowV E 1 (.slice p0.1 n0 p0.2) n0 (r.map fun x => [.int .i64 x]))) := by
  obtain ⟨p, c⟩ := p0
  unfold gSortI at H
  split at H
  case isFalse => cases H
  rename_i hsz
  cases H
  subst hn0
  have hcs0 := hcs
  obtain ⟨⟨hown, hlen, hall⟩, hb⟩ := hcs
  rw [flat1] at hown
  rcases hown.2 with ⟨h0, h1⟩ | ⟨g, cap, cur, hv, hbase, hh, h1, h2, h3, h4⟩
  · have hnil : a0 = [] := List.eq_nil_of_length_eq_zero h1
    subst hnil
    refine Calls.mono (Any.slices_Sort_int_none Ly p c w) ?_
    rintro e w' ⟨rfl, rfl⟩
    exact ⟨_, rfl, (), rfl, ⟨rfl, rfl, rfl, Nat.le_refl _, fun _ _ _ => rfl, S, by simpa using hcs0, fun b h => ⟨hlt b h, .inl h⟩⟩⟩
  · simp only [Value.slice.injEq] at hv
    obtain ⟨hv1, -, hv2⟩ := hv
    subst hv1 hv2
    have hgl : g < w.heap.size := (Array.getElem?_eq_some_iff.1 hh).1
    have hH : Holds (Value.int .i64) w g 0 a0.toArray := holds_of_blockI hh (by simpa using h4)
    refine Calls.mono (Any.slices_Sort_int Ly g 0 c a0 w hH hgl hsz) ?_
    rintro e w' ⟨rfl, n, os, rfl⟩
    have hl : (a0.mergeSort fun x y => decide (x ≤ y)).length = a0.length := List.length_mergeSort _
    have hG := grownBy_sortedI (w := w) (g := g) (n := n) (os := os) (a0.mergeSort fun x y => decide (x ≤ y)).toArray
    obtain ⟨g1, g2, g3, g4, g5⟩ := hG
    have hR := ownsRow_sortedI (base := 0) (w := w) (n := n) (os := os) hl (Nat.zero_le _) hh h1 h2 h3
    have hSg : S g := hb g rfl
    refine ⟨_, rfl, (), rfl, ⟨g1, g2, g3, g4, fun b hbl hnb => g5 b hbl (fun h => hnb (by cases h; exact hSg)), S, ⟨⟨by rw [flat1]; exact hR, by simp [hl], fun x hx => ?_⟩, hb⟩, fun b h => ⟨Nat.lt_of_lt_of_le (hlt b h) g4, .inl h⟩⟩⟩
    obtain ⟨y, _, rfl⟩ := List.mem_map.1 hx
    rfl

theorem sort_strs {P : Program} {ρ : Ren} (Ly : Lays.n190 P ρ) {E : TypeId} {a0 r : List (List UInt8)} {p0 : Option Addr × Nat} {n0 : Nat} {w : World} {S : Nat → Prop}
    (hcs : (rowV E 1 (.slice p0.1 n0 p0.2) n0 (a0.map fun x => [encStr x])).P S w) (hlt : ∀ b, S b → b < w.heap.size) (hn0 : n0 = a0.length) (H : gSortS a0 = some r) :
    Does P (ρ.f 190) (List.toArray [.slice p0.1 n0 p0.2]) w (fun v w' => ∃ _ : Unit, v = .tuple #[] ∧ Turn w w' S (rowV E 1 (.slice p0.1 n0 p0.2) n0 (r.map fun x => [encStr x]))) := by
  obtain ⟨p, c⟩ := p0
  unfold gSortS at H
  split at H
  case isFalse => cases H
  rename_i hsz
  cases H
  subst hn0
  have hcs0 := hcs
  obtain ⟨⟨hown, hlen, hall⟩, hb⟩ := hcs
  rw [flat1] at hown
  rcases hown.2 with ⟨h0, h1⟩ | ⟨g, cap, cur, hv, hbase, hh, h1, h2, h3, h4⟩
  · have hnil : a0 = [] := List.eq_nil_of_length_eq_zero h1
    subst hnil
    refine Calls.mono (Any.slices_Sort_string_none Ly p c w) ?_
    rintro e w' ⟨rfl, rfl⟩
    exact ⟨_, rfl, (), rfl, ⟨rfl, rfl, rfl, Nat.le_refl _, fun _ _ _ => rfl, S, by simpa using hcs0, fun b h => ⟨hlt b h, .inl h⟩⟩⟩
  · simp only [Value.slice.injEq] at hv
    obtain ⟨hv1, -, hv2⟩ := hv
    subst hv1 hv2
    have hgl : g < w.heap.size := (Array.getElem?_eq_some_iff.1 hh).1
    have hH : Holds (encStr) w g 0 a0.toArray := holds_of_block hh (by simpa using h4)
    refine Calls.mono (Any.slices_Sort_string Ly g 0 c a0 w hH hgl hsz) ?_
    rintro e w' ⟨rfl, n, os, rfl⟩
    have hl : (a0.mergeSort fun x y => decide (x ≤ y)).length = a0.length := List.length_mergeSort _
    have hG := grownBy_sorted (w := w) (g := g) (n := n) (os := os) (a0.mergeSort fun x y => decide (x ≤ y)).toArray
    obtain ⟨g1, g2, g3, g4, g5⟩ := hG
    have hR := ownsRow_sorted (base := 0) (w := w) (n := n) (os := os) hl (Nat.zero_le _) hh h1 h2 h3
    have hSg : S g := hb g rfl
    refine ⟨_, rfl, (), rfl, ⟨g1, g2, g3, g4, fun b hbl hnb => g5 b hbl (fun h => hnb (by cases h; exact hSg)), S, ⟨⟨by rw [flat1]; exact hR, by simp [hl], fun x hx => ?_⟩, hb⟩, fun b h => ⟨Nat.lt_of_lt_of_le (hlt b h) g4, .inl h⟩⟩⟩
    obtain ⟨y, _, rfl⟩ := List.mem_map.1 hx
    rfl

end Go.Vc
