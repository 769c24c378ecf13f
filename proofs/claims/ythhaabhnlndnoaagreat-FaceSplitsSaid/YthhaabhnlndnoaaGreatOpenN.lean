/- Opening arguments whose elements hold slices. Conditions: none. -/
import Derived.Test.YthhaabhnlndnoaaGreatOpenW
import Derived.Test.YthhaabhnlndnoaaGreatLx15
namespace Go.Lx
open Go Go.Vc Go.Md Go.ChangeShapes Go.WideShapes Go.ChangeAt

theorem piece_get {cs l : List Value} {o s q : Nat} (h : (cs.drop o).take s = l) (hq : q < l.length) : cs.getD (o + q) undef = l.getD q undef := by
  subst h
  have hs : q < s := by rw [List.length_take] at hq; omega
  simp only [List.getD_eq_getElem?_getD, List.getElem?_take, List.getElem?_drop, if_pos hs]

theorem fr_piece {h : Heap} {cs : List Value} {u : Value} {o s sz : Nat} {xs : List (List Value)} (e : (cs.drop o).take s = [u]) (f : FrS h sz u xs) : FrS h sz (cs.getD (o + 0) undef) xs := by
  rw [piece_get e (q := 0) (by simp)]; exact f
theorem fn_piece {α : Type} {G : Heap → (Nat → Value) → α → Prop} {h : Heap} {cs : List Value} {u : Value} {o s sz : Nat} {xs : List α} (e : (cs.drop o).take s = [u]) (f : FrN h sz u G xs) : FrN h sz (cs.getD (o + 0) undef) G xs := by
  rw [piece_get e (q := 0) (by simp)]; exact f

section
variable {P : Program} {H : Type} {enc : TypeId × Value → H} {w : World} {base : Nat} {spare : Nat → Bool} {held : Bool}

theorem op_sliceN {B by_ : Nat} {α : Type} {G : Heap → (Nat → Value) → α → Prop} {good : α → Prop} {t e sz fuel : Nat} {cs : List Value} {x : DataW H × List MemPlace} (hB : Wt P B t x.1) (ht : P.underlying t = some (.slice e)) (hc : P.cellsOf e = sz) (hsz : Nat.blt 0 sz = true) (hby : P.bytesOf e = by_)
    (hD : ∀ n cs x, Wt P B e x.1 → cs.length = sz → DataW.trod enc P w base spare held n e cs = some x → ∃ a : α, G (fun b => w.heap[b]?) (fun j => cs.getD j undef) a ∧ good a) (h : DataW.trod enc P w base spare held fuel t cs = some x) :
    ∃ (v : Value) (xs : List α), cs = [v] ∧ FrN (fun b => w.heap[b]?) sz v G xs ∧ (xs.length ≤ 9223372036854775807 ∧ xs.length * by_ ≤ B) ∧ ∀ x ∈ xs, good x := by
  obtain ⟨v, ps, h1, h2, h3, h4⟩ := op_sliceW (f := fun p : List Value × α => p.1) (good := fun p => p.1.length = sz ∧ G (fun b => w.heap[b]?) (fun j => p.1.getD j undef) p.2 ∧ good p.2) hB ht hc hsz hby
    (fun n cs x hb hl hx => by
      obtain ⟨a, g1, g2⟩ := hD n cs x hb hl hx
      exact ⟨(cs, a), rfl, hl, g1, g2⟩) h
  refine ⟨v, ps.map Prod.snd, h1, ?_, by simpa using h3, fun y hy => ?_⟩
  · refine frn_of (css := ps.map Prod.fst) ?_ ⟨by simp, fun i c y hc hy => ?_⟩
    · have : (ps.map Prod.fst).map idC = ps.map fun p => p.1 := by unfold idC; simp
      rw [this]; exact h2
    · simp only [List.getElem?_map, Option.map_eq_some_iff] at hc hy
      obtain ⟨p, hp, rfl⟩ := hc
      obtain ⟨q, hq, rfl⟩ := hy
      rw [hp] at hq
      cases hq
      have := h4 p (List.mem_of_getElem? hp)
      exact ⟨this.1, this.2.1⟩
  · obtain ⟨p, hp, rfl⟩ := List.mem_map.1 hy
    exact (h4 p hp).2.2
end
end Go.Lx
