/- What a claim says of a call's arguments, as values of plain types: parts of structs, arrays, slices. Conditions: none. -/
import Derived.Test.YthhaabhnlndnoaaGreatOpen
import Derived.Test.YthhaabhnlndnoaaGreatLx2
namespace Go.Lx
open Go Go.Vc Go.Md

variable {H : Type} {enc : TypeId × Value → H} {P : Program} {w : World} {base : Nat} {spare : Nat → Bool} {held : Bool}

theorem piece {cs l : List Value} {o s : Nat} (h : (cs.drop o).take s = l) (hl : l.length = s) : cs.drop o = l ++ cs.drop (o + s) := by
  have := List.take_append_drop s (cs.drop o)
  rw [h, List.drop_drop] at this
  exact this.symm

theorem op_fieldF {t fuel i ft fo sz bo : Nat} {nm tg pk : String} {em : Bool} {fs : Array Field} {cs : List Value} {x : DataW H × List MemPlace} (ht : P.underlying t = some (.struct fs)) (hf : fs[i]? = some ⟨nm, ft, fo, em, tg, pk, bo⟩) (hc : P.cellsOf ft = sz) (h : DataW.trod enc P w base spare held fuel t cs = some x) :
    ∃ n y, DataW.trod enc P w base spare held n ft ((cs.drop fo).take sz) = some y := by
  subst hc
  exact op_field ht hf h

theorem op_arr {α : Type} [Inhabited α] {f : α → List Value} {good : α → Prop} {t e sz m fuel : Nat} {cs : List Value} {x : DataW H × List MemPlace} (ht : P.underlying t = some (.array m e)) (hc : P.cellsOf e = sz) (hf : ∀ a, (f a).length = sz)
    (hD : ∀ n cs x, cs.length = sz → DataW.trod enc P w base spare held n e cs = some x → ∃ a, cs = f a ∧ good a) (hlen : cs.length = m * sz) (h : DataW.trod enc P w base spare held fuel t cs = some x) :
    ∃ g : Nat → α, cs = (List.range m).flatMap (fun j => f (g j)) ∧ ∀ j, j < m → good (g j) := by
  have each : ∀ i : Fin m, ∃ a : α, (cs.drop (i * sz)).take sz = f a ∧ good a := by
    intro i
    obtain ⟨n, y, hy⟩ := op_elem ht i.2 h
    rw [hc] at hy
    have hle : (i + 1) * sz ≤ m * sz := Nat.mul_le_mul_right _ i.2
    rw [Nat.succ_mul] at hle
    exact hD _ _ _ (by rw [List.length_take, List.length_drop]; omega) hy
  have hch : ∃ g : Fin m → α, ∀ i : Fin m, (cs.drop (i * sz)).take sz = f (g i) ∧ good (g i) := ⟨fun i => (each i).choose, fun i => (each i).choose_spec⟩
  obtain ⟨g, hg⟩ := hch
  refine ⟨fun j => if h : j < m then g ⟨j, h⟩ else default, ?_, fun j hj => by show good (if h : j < m then g ⟨j, h⟩ else default); rw [dif_pos hj]; exact (hg ⟨j, hj⟩).2⟩
  have key : ∀ k, k ≤ m → cs = ((List.range k).flatMap fun j => f (if h : j < m then g ⟨j, h⟩ else default)) ++ cs.drop (k * sz) := by
    intro k
    induction k with
    | zero => intro _; simp
    | succ k ih =>
      intro hk
      have h1 := ih (by omega)
      have h2 := piece (hg ⟨k, by omega⟩).1 (hf _)
      rw [List.range_succ, List.flatMap_append, List.flatMap_singleton, dif_pos (show k < m by omega), List.append_assoc, Nat.succ_mul]
      rw [← h2]
      exact h1
  have := key m (Nat.le_refl _)
  rwa [List.drop_of_length_le (by omega), List.append_nil] at this

theorem Row.snap {w : World} {a : Option Addr} {sz : Nat} {xs : List (List Value)} (h : Row w a sz xs) (hsz : 0 < sz) : RowH (fun b => w.heap[b]?) a sz xs := by
  rcases h with h | ⟨b, off, ha, h⟩
  · exact .inl h
  · cases xs with
    | nil => exact .inl rfl
    | cons x r =>
      have h0 := h 0 x rfl
      have hv := h0.2 0 x[0] (by simp [h0.1, hsz])
      unfold World.cell? at hv
      split at hv
      · rename_i c T m hb
        refine .inr ⟨b, off, c, T, m, ha, hb, fun i y hy => ⟨(h i y hy).1, fun j v hj => ?_⟩⟩
        have := (h i y hy).2 j v hj
        unfold World.cell? at this
        rw [hb] at this
        simpa using this
      · cases hv

/-- A slice argument. -/
theorem op_sliceF {α : Type} {f : α → List Value} {good : α → Prop} {t e sz fuel : Nat} {cs : List Value} {x : DataW H × List MemPlace} (ht : P.underlying t = some (.slice e)) (hc : P.cellsOf e = sz) (hsz : Nat.blt 0 sz = true)
    (hD : ∀ n cs x, cs.length = sz → DataW.trod enc P w base spare held n e cs = some x → ∃ a, cs = f a ∧ good a) (h : DataW.trod enc P w base spare held fuel t cs = some x) :
    ∃ (v : Value) (xs : List α), cs = [v] ∧ FrS (fun b => w.heap[b]?) sz v (xs.map f) ∧ xs.length ≤ 9223372036854775807 ∧ ∀ x ∈ xs, good x := by
  obtain ⟨p, xs, rfl, h1, h2, h3, h4⟩ := op_slice ht hc (by simpa using hsz) hD h
  exact ⟨_, xs, rfl, ⟨⟨p.1, p.2, by simp, by simpa using h2, h3, Row.snap h1 (by simpa using hsz)⟩⟩, by omega, h4⟩

/-- The value of an argument, off its cells. -/
theorem val_struct {r : Reach} {b0 t : Nat} {v : Value} {fs : Array Field} (ht : P.underlying t = some (.struct fs)) (hval : Value.okWide P w r b0 t v) : ∃ cs : List Value, v = .agg cs.toArray ∧ v.cells.toList = cs ∧ cs.length = P.cellsOf t := by
  unfold Value.okWide at hval
  rw [ht] at hval
  obtain ⟨cs, rfl, h, _⟩ := hval; exact ⟨cs.toList, by simp, rfl, by simpa using h⟩

theorem val_array {r : Reach} {b0 t m u : Nat} {v : Value} (ht : P.underlying t = some (.array m u)) (hval : Value.okWide P w r b0 t v) : ∃ cs : List Value, v = .agg cs.toArray ∧ v.cells.toList = cs ∧ cs.length = P.cellsOf t := by
  unfold Value.okWide at hval
  rw [ht] at hval
  obtain ⟨cs, rfl, h, _⟩ := hval; exact ⟨cs.toList, by simp, rfl, by simpa using h⟩

theorem val_cell {r : Reach} {b0 t : Nat} {v : Value} (ht : (match P.underlying t with | some (.int _) | some (.slice _) | some .string | some .bool => true | _ => false) = true) (hval : Value.okWide P w r b0 t v) : v.cells.toList = [v] := by
  unfold Value.okWide at hval
  split at hval
  · rename_i h; rw [h] at ht; cases ht
  · rename_i h; rw [h] at ht; cases ht
  · cases v with
    | agg cs =>
      exfalso
      unfold Cell.okWide at hval
      split at ht <;> simp_all [Cell.ok]
    | _ => rfl

end Go.Lx
