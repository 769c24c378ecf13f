/- What a claim says of a call's arguments, as rows: slices, arrays, structs, strings. Conditions: none. -/
import Derived.Test.YthhaabhnlndnoaaGreatVc8
import Derived.ProofKit
import Derived.OpenShut
import Derived.ChangeArms
import Derived.DataReads
namespace Go.Vc
open Go

variable {H : Type} {enc : TypeId × Value → H} {P : Program} {w : World} {base : Nat} {spare : Nat → Bool} {held : Bool}

theorem cells_addr {w : World} {base k : Nat} {a : Addr} {cs : List Value} (h : w.cells? base a k = some cs) : cs.length = k ∧ ∀ i, i < k → w.cell? (a.add i) = cs[i]? :=
  (World.cells?_some h).2

theorem cell_spot {w : World} {a : Addr} {v : Value} (h : w.cell? a = some v) : a.spot = none := by
  unfold World.cell? at h
  split at h
  · split at h
    · cases h
    · rename_i hs; simpa using hs
  · cases h

theorem add_spot (a : Addr) (k : Nat) (h : (a.add k).spot = none) : a.spot = none ∨ 0 < k := by
  unfold Addr.add at h
  split at h
  · exact .inl h
  · right; omega

/-- A slice whose elements are read one by one. -/
theorem op_slice {α : Type} {f : α → List Value} {good : α → Prop} {t e sz fuel : Nat} {cs : List Value} {x : DataW H × List MemPlace} (ht : P.underlying t = some (.slice e)) (hc : P.cellsOf e = sz) (hsz : 0 < sz)
    (hD : ∀ n cs x, cs.length = sz → DataW.trod enc P w base spare held n e cs = some x → ∃ a, cs = f a ∧ good a) (h : DataW.trod enc P w base spare held fuel t cs = some x) :
    ∃ (p : Option Addr × Nat) (xs : List α), cs = [.slice p.1 xs.length p.2] ∧ Row w p.1 sz (xs.map f) ∧ xs.length ≤ p.2 ∧ p.2 ≤ 9223372036854775807 ∧ ∀ x ∈ xs, good x := by
  rcases DataW.trod_slice ht h with ⟨rfl, _⟩ | ⟨a, len, cap, elems, rest, n, _, rfl, _, _, hl, hm, hlen, hel, _⟩
  · exact ⟨(none, 0), [], rfl, .inl rfl, by simp, by simp, by simp⟩
  · have each : ∀ i : Fin len, ∃ a' : α, w.cells? base (a.add (i * sz)) sz = some (f a') ∧ good a' := by
      intro i
      have hi := hel i i.2
      rw [hc] at hi
      have hlt : (i : Nat) < elems.length := by rw [hlen]; exact i.2
      rw [List.getElem?_eq_getElem hlt, Option.bind_eq_some_iff] at hi
      obtain ⟨cs', h1, h2⟩ := hi
      obtain ⟨a', rfl, hg⟩ := hD _ _ _ (cells_addr h1).1 h2
      exact ⟨a', h1, hg⟩
    have hch : ∃ g : Fin len → α, ∀ i : Fin len, w.cells? base (a.add (i * sz)) sz = some (f (g i)) ∧ good (g i) := ⟨fun i => (each i).choose, fun i => (each i).choose_spec⟩
    obtain ⟨g, hg⟩ := hch
    refine ⟨(some a, cap), List.ofFn g, by simp, ?_, by simpa using hl, by simpa [maxLen] using hm, ?_⟩
    · cases len with
      | zero => left; simp
      | succ k =>
        have h0 := hg 0
        have hsp : a.spot = none := by
          have := (cells_addr h0.1).2 0 hsz
          have hln := (cells_addr h0.1).1
          rw [List.getElem?_eq_getElem (by omega)] at this
          have hs := cell_spot this
          simpa [Addr.add] using hs
        obtain ⟨b, off, spot⟩ := a
        simp only at hsp
        subst hsp
        refine .inr ⟨b, off, rfl, fun i x hx => ?_⟩
        have hi : i < k + 1 := by
          rcases Nat.lt_or_ge i (k + 1) with h | h
          · exact h
          · rw [List.getElem?_eq_none (by simpa using h)] at hx; cases hx
        have hx' : x = f (g ⟨i, hi⟩) := by
          rw [List.getElem?_map, List.getElem?_ofFn, dif_pos hi] at hx
          exact (Option.some.inj hx).symm
        subst hx'
        obtain ⟨c1, c2⟩ := cells_addr (hg ⟨i, hi⟩).1
        refine ⟨c1, fun j v hv => ?_⟩
        have hj : j < sz := by
          rcases Nat.lt_or_ge j sz with h | h
          · exact h
          · rw [List.getElem?_eq_none (by omega)] at hv; cases hv
        have := c2 j hj
        rw [hv, Addr.add_lit, Addr.add_lit] at this
        exact this
    · intro x hx
      rw [List.mem_ofFn] at hx
      obtain ⟨i, rfl⟩ := hx
      exact (hg i).2

/-- One cell that holds a whole number. -/
theorem op_int {t fuel : Nat} {k : IntKind} {cs : List Value} {x : DataW H × List MemPlace} (ht : P.underlying t = some (.int k)) (h : DataW.trod enc P w base spare held fuel t cs = some x) : ∃ n : Int, cs = [.int k n] ∧ (Lit.int k n).wf = true := by
  obtain ⟨n, h1, _, h2⟩ := DataW.trod_int ht h
  exact ⟨n, h1, h2⟩

theorem op_bool {t fuel : Nat} {cs : List Value} {x : DataW H × List MemPlace} (ht : P.underlying t = some .bool) (h : DataW.trod enc P w base spare held fuel t cs = some x) : ∃ b : Bool, cs = [.bool b] := by
  obtain ⟨n, h1, _⟩ := DataW.trod_bool ht h
  exact ⟨n, h1⟩

theorem op_string {t fuel : Nat} {cs : List Value} {x : DataW H × List MemPlace} (ht : P.underlying t = some .string) (h : DataW.trod enc P w base spare held fuel t cs = some x) : ∃ s : List UInt8, cs = [str s] ∧ s.length ≤ 9223372036854775807 := by
  obtain ⟨s, h1, _, h2⟩ := DataW.trod_string ht h
  refine ⟨s.data.toList, by rw [h1], ?_⟩
  have e : s.data.toList.length = s.size := by rw [Array.length_toList]; rfl
  rw [e]
  unfold maxLen at h2
  omega

/-- A part of a struct. -/
theorem op_field {t fuel i : Nat} {fs : Array Field} {f : Field} {cs : List Value} {x : DataW H × List MemPlace} (ht : P.underlying t = some (.struct fs)) (hf : fs[i]? = some f) (h : DataW.trod enc P w base spare held fuel t cs = some x) :
    ∃ n y, DataW.trod enc P w base spare held n f.type ((cs.drop f.offset).take (P.cellsOf f.type)) = some y := by
  obtain ⟨xs, n, _, _, _, hl, hp⟩ := DataW.trod_struct ht h
  have h1 := hp i f hf
  have hi : i < fs.size := by
    rcases Nat.lt_or_ge i fs.size with h | h
    · exact h
    · rw [Array.getElem?_eq_none h] at hf; cases hf
  rw [List.getElem?_eq_getElem (by omega)] at h1
  exact ⟨n, _, h1⟩

/-- A part of an array. -/
theorem op_elem {t fuel i m e : Nat} {cs : List Value} {x : DataW H × List MemPlace} (ht : P.underlying t = some (.array m e)) (hi : i < m) (h : DataW.trod enc P w base spare held fuel t cs = some x) :
    ∃ n y, DataW.trod enc P w base spare held n e ((cs.drop (i * P.cellsOf e)).take (P.cellsOf e)) = some y := by
  obtain ⟨xs, n, _, _, _, hl, hp⟩ := DataW.trod_array ht h
  have h1 := hp i hi
  rw [List.getElem?_eq_getElem (by omega)] at h1
  exact ⟨n, _, h1⟩

end Go.Vc
