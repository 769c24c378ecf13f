/- What a claim says of a call's arguments, where their bulk is bounded. Conditions: none. -/
import Derived.Test.YthhaabhnlndnoaaGreatOpen2
namespace Go.Vc
open Go Go.Lx

variable {H : Type} {enc : TypeId × Value → H} {P : Program} {w : World} {base : Nat} {spare : Nat → Bool} {held : Bool}

/-- A measure of readings that is not less than its parts'. -/
structure BK (bk : DataW H → Nat) : Prop where
  slice : ∀ (es rs : List (DataW H)) (d : DataW H), d ∈ es → bk d ≤ bk (.slice es rs)
  agg : ∀ (es : List (DataW H)) (d : DataW H), d ∈ es → bk d ≤ bk (.agg es)
  str : ∀ bs : List UInt8, bs.length ≤ bk (.lit (.string bs))

theorem op_stringB {bk : DataW H → Nat} (K : BK bk) {t fuel : Nat} {cs : List Value} {x : DataW H × List MemPlace} (ht : P.underlying t = some .string) (h : DataW.trod enc P w base spare held fuel t cs = some x) : ∃ s : List UInt8, cs = [str s] ∧ s.length ≤ 9223372036854775807 ∧ s.length ≤ bk x.1 := by
  obtain ⟨s, h1, h3, h2⟩ := DataW.trod_string ht h
  refine ⟨s.data.toList, by rw [h1], ?_, ?_⟩
  · have e : s.data.toList.length = s.size := by rw [Array.length_toList]; rfl
    rw [e]
    unfold maxLen at h2
    omega
  · rw [h3]; exact K.str _

theorem op_fieldB {bk : DataW H → Nat} (K : BK bk) {t fuel i ft fo sz bo : Nat} {nm tg pk : String} {em : Bool} {fs : Array Field} {cs : List Value} {x : DataW H × List MemPlace} (ht : P.underlying t = some (.struct fs)) (hf : fs[i]? = some ⟨nm, ft, fo, em, tg, pk, bo⟩) (hc : P.cellsOf ft = sz) (h : DataW.trod enc P w base spare held fuel t cs = some x) :
    ∃ n y, DataW.trod enc P w base spare held n ft ((cs.drop fo).take sz) = some y ∧ bk y.1 ≤ bk x.1 := by
  subst hc
  obtain ⟨xs, n, _, hx, _, hl, hp⟩ := DataW.trod_struct ht h
  have h1 := hp i _ hf
  have hi : i < fs.size := by
    rcases Nat.lt_or_ge i fs.size with h | h
    · exact h
    · rw [Array.getElem?_eq_none h] at hf; cases hf
  rw [List.getElem?_eq_getElem (by omega)] at h1
  refine ⟨n, _, h1, ?_⟩
  rw [hx]
  exact K.agg _ _ (List.mem_map.2 ⟨_, List.getElem_mem _, rfl⟩)

theorem op_sliceB {bk : DataW H → Nat} (K : BK bk) {B : Nat} {α : Type} {f : α → List Value} {good : α → Prop} {t e sz fuel : Nat} {cs : List Value} {x : DataW H × List MemPlace} (hB : bk x.1 ≤ B) (ht : P.underlying t = some (.slice e)) (hc : P.cellsOf e = sz) (hsz : Nat.blt 0 sz = true)
    (hD : ∀ n cs x, bk x.1 ≤ B → cs.length = sz → DataW.trod enc P w base spare held n e cs = some x → ∃ a, cs = f a ∧ good a) (h : DataW.trod enc P w base spare held fuel t cs = some x) :
    ∃ (v : Value) (xs : List α), cs = [v] ∧ FrS (fun b => w.heap[b]?) sz v (xs.map f) ∧ xs.length ≤ 9223372036854775807 ∧ ∀ x ∈ xs, good x := by
  have h' := h
  rcases DataW.trod_slice ht h with ⟨rfl, _⟩ | ⟨a, len, cap, elems, rest, n, _, rfl, hx, _, hl, hm, hlen, hel, _⟩
  · exact ⟨_, [], rfl, FrS.nil _ _, by simp, by simp⟩
  · -- the elements, and no others
    have each : ∀ i : Fin len, ∃ a' : α, w.cells? base (a.add (i * sz)) sz = some (f a') ∧ good a' := by
      intro i
      have hi := hel i i.2
      rw [hc] at hi
      have hlt : (i : Nat) < elems.length := by rw [hlen]; exact i.2
      rw [List.getElem?_eq_getElem hlt, Option.bind_eq_some_iff] at hi
      obtain ⟨cs', h1, h2⟩ := hi
      have hb : bk (elems[(i : Nat)]).1 ≤ B := by
        refine Nat.le_trans ?_ hB
        rw [hx]
        exact K.slice _ _ _ (List.mem_map.2 ⟨_, List.getElem_mem _, rfl⟩)
      obtain ⟨a', rfl, hg⟩ := hD _ _ _ hb (cells_addr h1).1 h2
      exact ⟨a', h1, hg⟩
    have hsz' : 0 < sz := by simpa using hsz
    have hch : ∃ g : Fin len → α, ∀ i : Fin len, w.cells? base (a.add (i * sz)) sz = some (f (g i)) ∧ good (g i) := ⟨fun i => (each i).choose, fun i => (each i).choose_spec⟩
    obtain ⟨g, hg⟩ := hch
    have hrow : Row w (some a) sz ((List.ofFn g).map f) := by
      cases len with
      | zero => left; simp
      | succ k =>
        have h0 := hg 0
        have hsp : a.spot = none := by
          have := (cells_addr h0.1).2 0 hsz'
          have hln := (cells_addr h0.1).1
          rw [List.getElem?_eq_getElem (by omega)] at this
          have hs := cell_spot this
          simpa [Addr.add] using hs
        obtain ⟨b, off, spot⟩ := a
        simp only at hsp
        subst hsp
        refine .inr ⟨b, off, rfl, fun i x hx => ?_⟩
        have hi : i < k + 1 := by
          rcases Nat.lt_or_ge i (k + 1) with h | h
          · exact h
          · rw [List.getElem?_eq_none (by simpa using h)] at hx; cases hx
        have hx' : x = f (g ⟨i, hi⟩) := by
          rw [List.getElem?_map, List.getElem?_ofFn, dif_pos hi] at hx
          exact (Option.some.inj hx).symm
        subst hx'
        obtain ⟨c1, c2⟩ := cells_addr (hg ⟨i, hi⟩).1
        refine ⟨c1, fun j v hv => ?_⟩
        have hj : j < sz := by
          rcases Nat.lt_or_ge j sz with h | h
          · exact h
          · rw [List.getElem?_eq_none (by omega)] at hv; cases hv
        have := c2 j hj
        rw [hv, Addr.add_lit, Addr.add_lit] at this
        exact this
    have hm' : cap ≤ 9223372036854775807 := by simpa [maxLen] using hm
    refine ⟨_, List.ofFn g, rfl, ⟨⟨some a, cap, by simp, by simpa using hl, hm', Row.snap hrow hsz'⟩⟩, by simp; omega, ?_⟩
    intro x hx
    rw [List.mem_ofFn] at hx
    obtain ⟨i, rfl⟩ := hx
    exact (hg i).2

end Go.Vc
