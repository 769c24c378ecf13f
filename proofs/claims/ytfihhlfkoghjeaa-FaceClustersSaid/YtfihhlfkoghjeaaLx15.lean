/- Rules: slices of one's own whose elements hold slices: rows of raw cells, facts on what they stand for, and a pool of memory that nobody turns any more. Conditions: none. -/
import Derived.Test.YtfihhlfkoghjeaaMd
import Derived.Shelf.Sort.Plain
import Derived.Shelf.Slices.In.SortNone
import Derived.Sort.OwnSortedInts
import Derived.Lib.Bytealg
import Derived.Lib.SmallJoins
import Derived.Lib.AppendIntMem
import Derived.Shelf.Strconv.Itoa3
import Derived.Shelf.Strconv.Atoi
import Derived.Shelf.Strings.Repeat
import Derived.Shelf.Strings.OnBuilder
import Derived.Shelf.Slices.CompactS
import Derived.Sort.OwnSorted
import Derived.Lib.ConvBytes
import Derived.Maps.RangeRun
import Derived.Shelf.Slices.CompactI
import Derived.Shelf.SlSortCmp.WholeK
import Derived.Shelf.SlSortCmp.NoneTotal
import Derived.ArgAppend
import Derived.LoopN
import Derived.Lib.Overlaps
import Derived.Test.YtfihhlfkoghjeaaProg
set_option linter.unusedVariables false
namespace Go.Lx
open Go Go.Vc Go.Md

def idC (l : List Value) : List Value := l
def noH : Heap := fun _ => none

structure AllC {α : Type} (G : Heap → (Nat → Value) → α → Prop) (h : Heap) (sz : Nat) (css : List (List Value)) (xs : List α) : Prop where
  len : css.length = xs.length
  el : ∀ (i : Nat) (cs : List Value) (x : α), css[i]? = some cs → xs[i]? = some x → cs.length = sz ∧ G h (fun j => cs.getD j undef) x

section allc
variable {α : Type} {G : Heap → (Nat → Value) → α → Prop} {h h' : Heap} {sz : Nat} {css : List (List Value)} {xs ys : List α}
theorem AllC.nil : AllC G h sz [] ([] : List α) := ⟨rfl, by simp⟩
theorem AllC.mono [M : Mon G] (p : AllC G h sz css xs) (k : ∀ b o, h b = some o → h' b = some o) : AllC G h' sz css xs :=
  ⟨p.len, fun i c x hc hx => ⟨(p.el i c x hc hx).1, M.mono k _ _ (p.el i c x hc hx).2⟩⟩
theorem AllC.get (p : AllC G h sz css xs) {i : Int} {x : α} (g : gAt xs i = some x) : css[i.toNat]? = some (css.getD i.toNat []) := by
  obtain ⟨h0, h1, _⟩ := gAt_some g
  rw [List.getD_eq_getElem?_getD, List.getElem?_eq_getElem (by rw [p.len]; exact h1)]; rfl
theorem AllC.ix (p : AllC G h sz css xs) {i : Int} {x : α} (g : gAt xs i = some x) : gAt css i = some (css.getD i.toNat []) := by
  unfold gAt; rw [if_pos (gAt_some g).1]; exact p.get g
theorem AllC.at (p : AllC G h sz css xs) {i : Int} {x : α} (g : gAt xs i = some x) : G h (fun j => (css.getD i.toNat []).getD j undef) x := (p.el _ _ _ (p.get g) (gAt_some g).2.2).2
theorem AllC.eta (p : AllC G h sz css xs) {i : Int} {x : α} (g : gAt xs i = some x) : idC (css.getD i.toNat []) = (List.range sz).map fun j => (css.getD i.toNat []).getD j undef := by
  have hl := (p.el _ _ _ (p.get g) (gAt_some g).2.2).1
  unfold idC
  generalize css.getD i.toNat [] = l at hl
  subst hl
  apply List.ext_getElem
  · simp
  · intro j h1 h2
    simp [List.getD_eq_getElem?_getD, List.getElem?_eq_getElem h1]
end allc

def poolC (base hp : Heap) : Chunk where
  P S w := (∀ b o, base b = some o → hp b = some o) ∧ ∀ b o, hp b = some o → base b = some o ∨ (S b ∧ w.heap[b]? = some o)
  loc S w w' h := fun ⟨h1, h2⟩ => ⟨h1, fun b o hb => (h2 b o hb).imp id fun ⟨hs, hw⟩ => ⟨hs, (h b hs).trans hw⟩⟩

section rules
variable {cx : Cx} {K : Env → World → Prop} {e : Env} {L : List Chunk} {base hp : Heap}

theorem c_poolNew (base : Heap) (k : At cx K e (L ++ [poolC base base])) : At cx K e L :=
  ⟨fun w hF hS => k.out w hF (hS.snoc hF (Grow.refl w) (S := noS) ⟨fun _ _ h => h, fun _ _ h => .inl h⟩ (fun _ h => h.elim))⟩

theorem pool_now {w : World} {i : Nat} (hS : Sat cx w L) (hi : L[i]? = some (poolC base hp)) (hb : ∀ b o, base b = some o → w.heap[b]? = some o) : ∀ b o, hp b = some o → w.heap[b]? = some o := fun b o h => by
  obtain ⟨S, hP, _⟩ := hS.at hi
  rcases hP.2 b o h with h | h
  · exact hb b o h
  · exact h.2
theorem noH_le {h : Heap} : ∀ b o, noH b = some o → h b = some o := fun _ _ h => by cases h

open Classical in
theorem c_freeze {C : Chunk} {Φ : Heap → Prop} (i j : Nat) (hi : L[i]? = some (poolC base hp)) (hj : L[j]? = some C) (hne : i ≠ j) (hb : ∀ w, Fr cx w → ∀ b o, base b = some o → w.heap[b]? = some o)
    (hC : ∀ S w (H : Heap), C.P S w → (∀ b o, S b → w.heap[b]? = some o → H b = some o) → (∀ b o, hp b = some o → H b = some o) → Φ H)
    (k : ∀ hp', (∀ b o, hp b = some o → hp' b = some o) → Φ hp' → At cx K e ((L.set i (poolC base hp')).set j empC)) : At cx K e L :=
  ⟨fun w hF hS => by
    have hnow := pool_now hS hi (hb w hF)
    obtain ⟨fp, h1, h2, h3⟩ := hS.out
    have hil : i < L.length := by
      rcases Nat.lt_or_ge i L.length with h | h
      · exact h
      · simp [List.getElem?_eq_none h] at hi
    have hjl : j < L.length := by
      rcases Nat.lt_or_ge j L.length with h | h
      · exact h
      · simp [List.getElem?_eq_none h] at hj
    have hji : ¬ j = i := fun h => hne h.symm
    have le : ∀ b o, hp b = some o → (fun b => if fp j b then w.heap[b]? else hp b) b = some o := fun b o h => by
      show (if fp j b then w.heap[b]? else hp b) = some o
      split
      · exact hnow b o h
      · exact h
    refine (k (fun b => if fp j b then w.heap[b]? else hp b) le (hC (fp j) w _ (h1 j C hj) (fun b o hs h => by show (if fp j b then w.heap[b]? else hp b) = some o; rw [if_pos hs]; exact h) le)).out w hF ?_
    have key : ∀ q b, (if q = i then fp i b ∨ fp j b else if q = j then False else fp q b) → (q = i ∧ (fp i b ∨ fp j b)) ∨ (q ≠ i ∧ q ≠ j ∧ fp q b) := by
      intro q b h
      by_cases hqi : q = i
      · simp only [hqi, if_true] at h; exact .inl ⟨hqi, h⟩
      · by_cases hqj : q = j
        · simp only [hqj, hji, if_true, if_false] at h
        · simp only [hqi, hqj, if_false] at h; exact .inr ⟨hqi, hqj, h⟩
    refine ⟨fun q b => if q = i then fp i b ∨ fp j b else if q = j then False else fp q b, ?_, ?_, ?_⟩
    · intro q c hc
      by_cases hqj : q = j
      · subst hqj
        rw [List.getElem?_set_self (by simpa using hjl)] at hc
        cases hc
        show ∀ b, ¬ _
        intro b h
        simp [hji] at h
      · rw [List.getElem?_set_ne (fun h => hqj h.symm)] at hc
        by_cases hqi : q = i
        · subst hqi
          rw [List.getElem?_set_self hil] at hc
          cases hc
          simp only [if_true]
          have hP := h1 q _ hi
          refine ⟨fun b o h => le b o (hP.1 b o h), fun b o h => ?_⟩
          have h : (if fp j b then w.heap[b]? else hp b) = some o := h
          split at h
          · rename_i hs; exact .inr ⟨.inr hs, h⟩
          · rcases hP.2 b o h with h | h
            · exact .inl h
            · exact .inr ⟨.inl h.1, h.2⟩
        · rw [List.getElem?_set_ne (fun h => hqi h.symm)] at hc
          simp only [hqi, hqj, if_false]
          exact h1 q c hc
    · intro q b h
      rcases key q b h with ⟨rfl, h | h⟩ | ⟨_, _, h⟩
      · have := h2 q b h; exact ⟨by simpa using hil, this.2⟩
      · have := h2 j b h; exact ⟨by simpa using hil, this.2⟩
      · have := h2 q b h; exact ⟨by simpa using this.1, this.2⟩
    · intro q r b hq hr
      rcases key q b hq with ⟨hqi, hq | hq⟩ | ⟨hqi, hqj, hq⟩ <;> rcases key r b hr with ⟨hri, hr | hr⟩ | ⟨hri, hrj, hr⟩
      · omega
      · omega
      · exact absurd (h3 i r b hq hr) (fun h => hri h.symm)
      · omega
      · omega
      · exact absurd (h3 j r b hq hr) (fun h => hrj h.symm)
      · exact absurd (h3 q i b hq hr) hqi
      · exact absurd (h3 q j b hq hr) hqj
      · exact h3 q r b hq hr⟩

theorem FrS.sub {w : World} {S : Nat → Prop} {H : Heap} {sz : Nat} {v : Value} {xs : List (List Value)} (f : FrS (fun b => w.heap[b]?) sz v xs) (hd : ∀ b, v.ownBlock = some b → S b) (hH : ∀ b o, S b → w.heap[b]? = some o → H b = some o) : FrS H sz v xs := by
  obtain ⟨a, c, rfl, h1, h2, r⟩ := f.out
  refine ⟨a, c, rfl, h1, h2, ?_⟩
  rcases r with r | ⟨b, off, cs, T, m, rfl, hb, r⟩
  · exact .inl r
  · exact .inr ⟨b, off, cs, T, m, rfl, hH b _ (hd b rfl) hb, r⟩

theorem frn_of {α : Type} {G : Heap → (Nat → Value) → α → Prop} {h : Heap} {sz : Nat} {v : Value} {css : List (List Value)} {xs : List α} (f : FrS h sz v (css.map idC)) (p : AllC G h sz css xs) : FrN h sz v G xs := by
  have hid : css.map idC = css := by unfold idC; simp
  rw [hid] at f
  have cellE : ∀ i, i < xs.length → elH h v sz i = fun j => (css.getD i []).getD j undef := by
    intro i hi
    funext j
    have hi' : i < css.length := by rw [p.len]; exact hi
    have hcl : (css[i]).length = sz := (p.el i css[i] xs[i] (List.getElem?_eq_getElem hi') (List.getElem?_eq_getElem hi)).1
    have e1 : css.getD i [] = css[i] := by simp [List.getD_eq_getElem?_getD, List.getElem?_eq_getElem hi']
    rw [e1]
    by_cases hj : j < sz
    · obtain ⟨a, c, rfl, _, _, r⟩ := f.out
      rcases r with r | ⟨b, off, cs, T, m, rfl, hb, r⟩
      · subst r; simp at hi'
      · have h2 := (r i css[i] (List.getElem?_eq_getElem hi')).2 j ((css[i])[j]'(by omega)) (List.getElem?_eq_getElem (by omega))
        simp only [elH, if_pos hj, hb]
        rw [Array.getD_eq_getD_getElem?, h2]
        simp [List.getD_eq_getElem?_getD, List.getElem?_eq_getElem (show j < (css[i]).length by omega)]
    · unfold elH
      rw [if_neg hj, List.getD_eq_getElem?_getD, List.getElem?_eq_none (by omega)]; rfl
  have cells : ∀ i, i < xs.length → elC h v sz i = css.getD i [] := by
    intro i hi
    have hi' : i < css.length := by rw [p.len]; exact hi
    have hcl : (css[i]).length = sz := (p.el i css[i] xs[i] (List.getElem?_eq_getElem hi') (List.getElem?_eq_getElem hi)).1
    unfold elC
    rw [cellE i hi]
    have e1 : css.getD i [] = css[i] := by simp [List.getD_eq_getElem?_getD, List.getElem?_eq_getElem hi']
    rw [e1]
    apply List.ext_getElem
    · simp [hcl]
    · intro j h1 h2
      simp only [List.length_map, List.length_range] at h1
      simp [List.getD_eq_getElem?_getD, List.getElem?_eq_getElem h2]
  refine ⟨?_, fun i x hx => ?_⟩
  · have e : (List.range xs.length).map (elC h v sz) = css := by
      apply List.ext_getElem
      · simp [p.len]
      · intro i h1 h2
        simp only [List.length_map, List.length_range] at h1
        rw [List.getElem_map, List.getElem_range, cells i h1]
        simp [List.getD_eq_getElem?_getD, List.getElem?_eq_getElem h2]
    rw [e]; exact f
  · have hi : i < xs.length := by
      rcases Nat.lt_or_ge i xs.length with h | h
      · exact h
      · rw [List.getElem?_eq_none h] at hx; cases hx
    have hi' : i < css.length := by rw [p.len]; exact hi
    rw [cellE i hi]
    have e1 : css.getD i [] = css[i] := by simp [List.getD_eq_getElem?_getD, List.getElem?_eq_getElem hi']
    rw [e1]
    exact (p.el i css[i] x (List.getElem?_eq_getElem hi') hx).2

open Classical in
theorem c_poolJoin {hp1 : Heap} (i j : Nat) (hi : L[i]? = some (poolC base hp)) (hj : L[j]? = some (poolC noH hp1)) (hne : i ≠ j) (hb : ∀ w, Fr cx w → ∀ b o, base b = some o → w.heap[b]? = some o)
    (k : ∀ hp', (∀ b o, hp b = some o → hp' b = some o) → (∀ b o, hp1 b = some o → hp' b = some o) → At cx K e ((L.set i (poolC base hp')).set j empC)) : At cx K e L :=
  c_freeze (Φ := fun H => ∀ b o, hp1 b = some o → H b = some o) i j hi hj hne hb (fun S w H hP hH _ b o h => (hP.2 b o h).elim (fun h => by cases h) fun h => hH b o h.1 h.2) k

def rowD {α : Type} (E sz : Nat) (G : Heap → (Nat → Value) → α → Prop) (v : Value) (n : Nat) (xs : List α) : Chunk where
  P S w := ∃ (hp : Heap) (css : List (List Value)), AllC G hp sz css xs ∧ n = css.length ∧ (bothC (poolC noH hp) (rowV E sz v n (css.map idC))).P S w
  loc S w w' h := by
    rintro ⟨hp, css, h1, h2, h3⟩
    exact ⟨hp, css, h1, h2, Chunk.loc _ _ _ _ h h3⟩
def roD {α : Type} (sz : Nat) (G : Heap → (Nat → Value) → α → Prop) (v : Value) (n : Nat) (xs : List α) : Chunk where
  P S w := ∃ (hp : Heap) (css : List (List Value)), AllC G hp sz css xs ∧ n = css.length ∧ (bothC (poolC noH hp) (roV sz v n (css.map idC))).P S w
  loc S w w' h := by
    rintro ⟨hp, css, h1, h2, h3⟩
    exact ⟨hp, css, h1, h2, Chunk.loc _ _ _ _ h h3⟩

theorem imp_roD {α : Type} {G : Heap → (Nat → Value) → α → Prop} {sz n : Nat} {p : Option Addr × Nat} {css : List (List Value)} {xs : List α} (hn : n = css.length) (f : AllC G hp sz css xs) :
    Imp (bothC (poolC noH hp) (roV sz (.slice p.1 n p.2) n (css.map idC))) (roD sz G (.slice p.1 n p.2) n xs) := ⟨fun S w h => ⟨hp, css, f, hn, h⟩⟩

theorem c_show {C : Chunk} {τ : Type} {D : τ → Chunk} {φ : τ → Prop} (i : Nat) (hi : L[i]? = some C) (h : ∀ S w, C.P S w → ∃ t, φ t ∧ (D t).P S w) (k : ∀ t, φ t → At cx K e (L.set i (D t))) : At cx K e L :=
  ⟨fun w hF hS => by
    obtain ⟨fp, h1, h2, h3⟩ := hS.out
    obtain ⟨t, ht, hD⟩ := h _ _ (h1 i _ hi)
    have hil : i < L.length := by
      rcases Nat.lt_or_ge i L.length with h | h
      · exact h
      · simp [List.getElem?_eq_none h] at hi
    refine (k t ht).out w hF ⟨fp, fun j c hj => ?_, fun j b hb => by simpa using h2 j b hb, h3⟩
    by_cases hji : j = i
    · subst hji
      rw [List.getElem?_set_self hil] at hj
      cases hj
      exact hD
    · rw [List.getElem?_set_ne (fun h => hji h.symm)] at hj
      exact h1 j c hj⟩

theorem c_rowD {α : Type} {G : Heap → (Nat → Value) → α → Prop} {E sz n : Nat} {p : Option Addr × Nat} {xs : List α} (i : Nat) (hi : L[i]? = some (rowD E sz G (.slice p.1 n p.2) n xs))
    (k : ∀ (hp : Heap) (css : List (List Value)), n = css.length → AllC G hp sz css xs → At cx K e (L.set i (bothC (poolC noH hp) (rowV E sz (.slice p.1 n p.2) n (css.map idC))))) : At cx K e L :=
  c_show (τ := Heap × List (List Value)) (D := fun t => bothC (poolC noH t.1) (rowV E sz (.slice p.1 n p.2) n (t.2.map idC))) (φ := fun t => n = t.2.length ∧ AllC G t.1 sz t.2 xs) i hi (fun S w ⟨hp, css, h1, h2, h3⟩ => ⟨(hp, css), ⟨h2, h1⟩, h3⟩) fun t ht => k t.1 t.2 ht.1 ht.2
theorem c_roD {α : Type} {G : Heap → (Nat → Value) → α → Prop} {sz n : Nat} {p : Option Addr × Nat} {xs : List α} (i : Nat) (hi : L[i]? = some (roD sz G (.slice p.1 n p.2) n xs))
    (k : ∀ (hp : Heap) (css : List (List Value)), n = css.length → AllC G hp sz css xs → At cx K e (L.set i (bothC (poolC noH hp) (roV sz (.slice p.1 n p.2) n (css.map idC))))) : At cx K e L :=
  c_show (τ := Heap × List (List Value)) (D := fun t => bothC (poolC noH t.1) (roV sz (.slice p.1 n p.2) n (t.2.map idC))) (φ := fun t => n = t.2.length ∧ AllC G t.1 sz t.2 xs) i hi (fun S w ⟨hp, css, h1, h2, h3⟩ => ⟨(hp, css), ⟨h2, h1⟩, h3⟩) fun t ht => k t.1 t.2 ht.1 ht.2

end rules
end Go.Lx

namespace Go.Vc
open Go Go.Md Go.Shelf Go.Sort Go.Proofs

theorem flat1 {α : Type} (f : α → Value) (l : List α) : (l.map fun x => [f x]).flatten = l.map f := by
  induction l with
  | nil => rfl
  | cons x l ih => simp [ih]

theorem sort_ints {P : Program} {ρ : Ren} (Ly : Lays.n189 P ρ) {E : TypeId} {a0 r : List Int} {p0 : Option Addr × Nat} {n0 : Nat} {w : World} {S : Nat → Prop}
    (hcs : (rowV E 1 (.slice p0.1 n0 p0.2) n0 (a0.map fun x => [.int .i64 x])).P S w) (hlt : ∀ b, S b → b < w.heap.size) (hn0 : n0 = a0.length) (H : gSortI a0 = some r) :
    Does P (ρ.f 189) (List.toArray [.slice p0.1 n0 p0.2]) w (fun v w' => ∃ _ : Unit, v = .tuple #[] ∧ Turn w w' S (rowV E 1 (.slice p0.1 n0 p0.2) n0 (r.map fun x => [.int .i64 x]))) := by
  obtain ⟨p, c⟩ := p0
  unfold gSortI at H
  split at H
  case isFalse => cases H
  rename_i hsz
  cases H
  subst hn0
  have hcs0 := hcs
  obtain ⟨⟨hown, hlen, hall⟩, hb⟩ := hcs
  rw [flat1] at hown
  rcases hown.2 with ⟨h0, h1⟩ | ⟨g, cap, cur, hv, hbase, hh, h1, h2, h3, h4⟩
  · have hnil : a0 = [] := List.eq_nil_of_length_eq_zero h1
    subst hnil
    refine Calls.mono (Any.slices_Sort_int_none Ly p c w) ?_
    rintro e w' ⟨rfl, rfl⟩
    exact ⟨_, rfl, (), rfl, ⟨rfl, rfl, rfl, Nat.le_refl _, fun _ _ _ => rfl, S, by simpa using hcs0, fun b h => ⟨hlt b h, .inl h⟩⟩⟩
  · simp only [Value.slice.injEq] at hv
    obtain ⟨hv1, -, hv2⟩ := hv
    subst hv1 hv2
    have hgl : g < w.heap.size := (Array.getElem?_eq_some_iff.1 hh).1
    have hH : Holds (Value.int .i64) w g 0 a0.toArray := holds_of_blockI hh (by simpa using h4)
    refine Calls.mono (Any.slices_Sort_int Ly g 0 c a0 w hH hgl hsz) ?_
    rintro e w' ⟨rfl, n, os, rfl⟩
    have hl : (a0.mergeSort fun x y => decide (x ≤ y)).length = a0.length := List.length_mergeSort _
    have hG := grownBy_sortedI (w := w) (g := g) (n := n) (os := os) (a0.mergeSort fun x y => decide (x ≤ y)).toArray
    obtain ⟨g1, g2, g3, g4, g5⟩ := hG
    have hR := ownsRow_sortedI (base := 0) (w := w) (n := n) (os := os) hl (Nat.zero_le _) hh h1 h2 h3
    have hSg : S g := hb g rfl
    refine ⟨_, rfl, (), rfl, ⟨g1, g2, g3, g4, fun b hbl hnb => g5 b hbl (fun h => hnb (by cases h; exact hSg)), S, ⟨⟨by rw [flat1]; exact hR, by simp [hl], fun x hx => ?_⟩, hb⟩, fun b h => ⟨Nat.lt_of_lt_of_le (hlt b h) g4, .inl h⟩⟩⟩
    obtain ⟨y, _, rfl⟩ := List.mem_map.1 hx
    rfl

end Go.Vc

namespace Go.Lx
open Go Go.Vc Go.Md Go.Shelf Go.Proofs



def TabH (P : Program) (h : Heap) (name : String) (k : IntKind) (zs : List Int) : Prop := ∃ g T m, P.globalNamed name = some g ∧ h g = some (.cells (zs.map fun z => Value.int k z).toArray T m)
theorem TabH.mono {P : Program} {h h' : Heap} {name : String} {k : IntKind} {zs : List Int} (t : TabH P h name k zs) (hh : ∀ b o, h b = some o → h' b = some o) : TabH P h' name k zs := by
  obtain ⟨g, T, m, h1, h2⟩ := t
  exact ⟨g, T, m, h1, hh _ _ h2⟩

end Go.Lx

namespace Go.Vc
open Go Go.Md Go.Shelf Go.Sort Go.Proofs

end Go.Vc
namespace Go.Lx
open Go Go.Vc
section ops
variable {P : Program} {e : Env} {d : Option Nat} {ty : TypeId} {pos : String} {af : Array Edge} {g : Option (Nat × Bool)}
end ops
end Go.Lx

namespace Go.Lx
open Go Go.Vc Go.Md


def _root_.Go.Vc.Kd.dv (a : Nat) (rds : List Nat) (φ : Value → Value) : Kd := .g [a] rds [] (fun vs _ v => v = φ (vs.headD undef)) (fun _ _ _ => [])

section rules
variable {P : Program} {cx : Cx} {ops : Array Oper} {F : Env → List Chunk → Prop} {ss : List Kd} {rest : List Oper} {e : Env} {L : List Chunk}
end rules

def rowC (E : TypeId) (sz : Nat) (v : Value) (n : Nat) (xs : List (List Value)) (c : Nat) : Chunk where
  P S w := (rowV E sz v n xs).P S w ∧ c ≤ sc v
  loc S w w' h := fun ⟨h1, h2⟩ => ⟨(rowV E sz v n xs).loc S w w' h h1, h2⟩

theorem imp_rowC (E : TypeId) (sz : Nat) (v : Value) (n : Nat) (xs : List (List Value)) (c : Nat) : Imp (rowC E sz v n xs c) (rowV E sz v n xs) := ⟨fun _ _ h => h.1⟩

theorem imp_C0 (E : TypeId) (sz : Nat) (v : Value) : Imp (rowV E sz v 0 []) (rowC E sz v 0 [] 0) := ⟨fun _ _ h => ⟨h, Nat.zero_le _⟩⟩

section rules
variable {P : Program} {n : Nat} {cx : Cx} {e : Env} {L : List Chunk} {d : Nat} {ty : TypeId} {pos : String} {af : Array Edge} {g : Option (Nat × Bool)}

theorem run_append_in {S X : Operand} {t E : TypeId} {I : TypeInfo} {sz : Nat} {w : World} {v : Value} {m : Nat} {xs : List Value} {ad : Addr} {q c : Nat} {news : List Value}
    (ht : P.underlying t = some (.slice E)) (hi : P.info? E = some I) (hsize : I.size = sz)
    (hs : ev e S = v) (hown : w.ownsRow 0 E sz v m xs) (hx : ev e X = .slice (some ad) q c) (hl : news.length = q * sz) (hnews : ∀ j u, news[j]? = some u → w.cell? (ad.add j) = some u) (h1 : ∀ u ∈ news, u.oneCell' = true) (hroom : m + q ≤ sc v) :
    ∃ v' w', (execOp (ev e) ⟨some d, .call ⟨.builtin .append, #[S, X], #[t, t]⟩, ty, pos, af, g⟩).run P w = .ok (.value v') w' ∧ w'.ownsRow 0 E sz v' (m + q) (xs ++ news) ∧ w.grownBy w' v.ownBlock ∧ v'.ownBlock = v.ownBlock ∧ sc v' = sc v := by
  subst hsize
  have hlen : (xs ++ news).length = (m + q) * I.size := by rw [List.length_append, hown.1, hl, Nat.add_mul]
  rcases hown.2 with ⟨rfl, rfl⟩ | ⟨g0, cap, cur, rfl, hbg, hg, hnc, hcm, hcs, htake⟩
  · have hq : q = 0 := by simp only [sc] at hroom; omega
    subst hq
    have hn : news = [] := List.eq_nil_of_length_eq_zero (by simpa using hl)
    subst hn
    have hxs : xs = [] := List.eq_nil_of_length_eq_zero (by simpa using hown.1)
    subst hxs
    refine ⟨.slice none 0 0, w, ?_, World.ownsRow_nil w 0 E I.size, ⟨rfl, rfl, rfl, Nat.le_refl _, fun _ _ _ => rfl⟩, rfl, rfl⟩
    have hr : (Builtin.append_ #[t, t] ty #[.slice none 0 0, .slice (some ad) 0 c]).run P w = .ok (.slice none 0 0) w := by
      simp [Builtin.append_, run_underlying ht, sizeOf, typeInfo, hi, Builtin.lenOf, Builtin.firstCells, loadCells, loadCellsFrom]
    simp only [execOp, resolve, invoke, builtin, Sem.run_bind, Sem.run_pure, Result.andThen_ok, List.map_toArray, List.map_cons, List.map_nil, hs, hx, hr]
  · simp only [sc] at hroom
    have hfit : m * I.size + news.length ≤ cur.size := by rw [hl, hcs, ← Nat.add_mul]; exact Nat.mul_le_mul_right _ hroom
    have hr := run_append_room (P := P) w t ty E I ht hi g0 m cap cur hg ad q c news hl hnews h1 hroom hfit
    have he : (execOp (ev e) ⟨some d, .call ⟨.builtin .append, #[S, X], #[t, t]⟩, ty, pos, af, g⟩).run P w = .ok (.value (.slice (some ⟨g0, 0, none⟩) (m + q) cap)) (w.setRow g0 (cur.toList.take (m * I.size) ++ news ++ cur.toList.drop (m * I.size + news.length)).toArray) := by
      simp only [execOp, resolve, invoke, builtin, Sem.run_bind, Sem.run_pure, Result.andThen_ok, List.map_toArray, List.map_cons, List.map_nil, hs, hx, hr]
    refine ⟨_, _, he, ⟨hlen, .inr ⟨g0, cap, _, rfl, hbg, setRow_heap w g0 cur _ E _ hg, hroom, hcm, ?_, ?_⟩⟩, ⟨rfl, rfl, rfl, by simp, fun k _ hk => setRow_other w g0 k _ (fun e => hk (by simp [Value.ownBlock, e]))⟩, rfl, rfl⟩
    · simp only [List.size_toArray, List.length_append, List.length_take, List.length_drop, Array.length_toList]
      omega
    · rw [htake, ← hlen]
      exact List.take_left

theorem turns_appC {α : Type} {f : α → List Value} {ys ls zs : List α} {i : Nat} {S X : Operand} {t E : TypeId} {I : TypeInfo} {z : Value} {sz by_ : Nat} {p : Option Addr × Nat} {rds : List Nat} {V : Value} {a : Option Addr} {c m q cp : Nat} (hn : m = ys.length)
    (ht : P.underlying t = some (.slice E)) (hi : P.info? E = some I) (_hz : I.zero = some z) (hsize : I.size = sz) (_hby : I.bytes = by_) (_hzs : z.cells.size = sz) (_hsz : Nat.blt 0 sz = true)
    (hL : L[i]? = some (rowC E sz (.slice p.1 m p.2) m (ys.map f) cp)) (hs : ev e S = .slice p.1 m p.2) (hx : ev e X = V) (hV : V = .slice a q c) (hq : q = ls.length)
    (hnews : ∀ w L', Fr cx w → Sat cx w L' → (∀ j, j ∈ rds → L'[j]? = L[j]?) → Row w a sz (ls.map f)) (hf : ∀ x, (f x).length = sz) (h1 : ∀ x, (f x).all Value.oneCell' = true) (hg : gApC cp ys ls = some zs) :
    Turns P cx e ⟨some d, .call ⟨.builtin .append, #[S, X], #[t, t]⟩, ty, pos, af, g⟩ L i rds (fun p' : Option Addr × Nat => .slice p'.1 zs.length p'.2) (fun p' => rowC E sz (.slice p'.1 zs.length p'.2) zs.length (zs.map f) cp) := by
  subst hn hq
  obtain ⟨rfl, hb1⟩ := gApC_some hg
  intro w L' hF hS hl hi'
  have hr := hnews w L' hF hS fun j hj => hi' j (.inl hj)
  have hL' := (hi' i (.inr rfl)).trans hL
  obtain ⟨S0, ⟨⟨⟨ho, hlen, hlx⟩, hob⟩, hcp⟩, _⟩ := hS.at hL'
  cases ha : a with
  | some ad =>
    subst ha
    have hnl : ∀ x ∈ ls.map f, x.length = sz := fun x hx => by obtain ⟨y, _, rfl⟩ := List.mem_map.1 hx; exact hf y
    have hfl : (ls.map f).flatten.length = ls.length * sz := by rw [flat_len (ls.map f) hnl, List.length_map]
    have hcell : ∀ j u, (ls.map f).flatten[j]? = some u → w.cell? (ad.add j) = some u := by
      intro j u hj
      obtain ⟨i', k', x, g1, g2, g3⟩ := flat_get (ls.map f) hnl j u hj
      rcases hr with h | ⟨b, off, ha, h⟩
      · rw [h] at g1; simp at g1
      · cases ha
        have := (h i' x g1).2 k' u g2
        rw [Addr.add_lit, g3, ← Nat.add_assoc]
        exact this
    obtain ⟨v', w', hrun, h2, h3, h5, h6⟩ := run_append_in (P := P) (ty := ty) (pos := pos) (af := af) (g := g) (d := d) ht hi hsize hs ho (hx.trans hV) hfl hcell (by
      intro u hu
      obtain ⟨x, hx, hux⟩ := List.mem_flatten.1 hu
      obtain ⟨y, _, rfl⟩ := List.mem_map.1 hx
      exact List.all_eq_true.1 (h1 y) u hux) (Nat.le_trans hb1.1 hcp)
    obtain ⟨p', rfl⟩ := slice_of_row h2
    rw [← List.flatten_append] at h2
    have hlc : (zs_ : List α) → zs_ = ys ++ ls → True := fun _ _ => trivial
    obtain ⟨hF', hS'⟩ := hS.turnOf hF hL' (C := rowC E sz (.slice p'.1 (ys.length + ls.length) p'.2) (ys.length + ls.length) ((ys.map f) ++ (ls.map f)) cp) fun S1 hp => by
      have ht := turn_append hp.1.2 h2 h3 (.inl h5) (by simp) (by
        intro x hx
        rcases List.mem_append.1 hx with h | h
        · exact hlx x h
        · exact hnl x h)
      obtain ⟨k1, k2, k3, k4, k5, S2, k6, k7⟩ := ht
      exact ⟨k1, k2, k3, k4, k5, S2, ⟨k6, by rw [h6]; exact hcp⟩, k7⟩
    unfold RunsTo
    rw [hrun]
    refine ⟨p', by rw [List.length_append], hF', ?_⟩
    rw [List.length_append, List.map_append]
    exact hS'
  | none =>
    subst ha
    have hls : ls = [] := by
      rcases hr with h | ⟨b, off, h, _⟩
      · simpa using h
      · cases h
    subst hls
    have he : (execOp (ev e) ⟨some d, .call ⟨.builtin .append, #[S, X], #[t, t]⟩, ty, pos, af, g⟩).run P w = .ok (.value (.slice p.1 ys.length p.2)) w := by
      simp only [execOp, resolve, invoke, builtin, Sem.run_bind, Sem.run_pure, Result.andThen_ok, List.map_toArray, List.map_cons, List.map_nil, hs, hx, hV, List.length_nil, run_append_none_cap t ty E I sz ht hi _ _ _ c ho]
    unfold RunsTo
    rw [he]
    refine ⟨p, by simp, hF, ?_⟩
    have : L'.set i (rowC E sz (.slice p.1 (ys.length + 0) p.2) (ys.length + 0) ((ys ++ []).map f) cp) = L' := by
      rw [List.append_nil, Nat.add_zero]
      refine List.ext_getElem? fun j => ?_
      rw [List.getElem?_set]
      split
      · rename_i h; subst h
        split
        · exact hL'.symm
        · rename_i h; rw [List.getElem?_eq_none (by omega)]
      · rfl
    rw [List.append_nil] at this ⊢
    rw [show ys.length + 0 = ys.length from rfl] at this
    rw [this]
    exact hS

theorem makes_zerosC {S N : Operand} {t tn E : TypeId} {I : TypeInfo} {z : Value} {sz by_ m : Nat} {k kn : IntKind} {rds : List Nat} (ht : P.underlying t = some (.slice E)) (htn : P.underlying tn = some (.int kn)) (hi : P.info? E = some I) (hz : I.zero = some z) (hsize : I.size = sz) (hby : I.bytes = by_) (hzs : z.cells.size = sz) (hsz : Nat.blt 0 sz = true)
    (hs : ev e S = .slice none 0 0) (hn : ev e N = .int k (m : Int)) (h0 : 0 < m) (hm : m ≤ 281474976710656) (hb : by_ * m ≤ 281474976710656) :
    Makes P cx e ⟨some d, .call ⟨.builtin .append, #[S, N], #[t, tn]⟩, ty, pos, af, g⟩ L rds (fun x : Nat × Nat => .slice (some ⟨x.1, 0, none⟩) m x.2) (fun x => rowC E sz (.slice (some ⟨x.1, 0, none⟩) 0 x.2) 0 [] m) := fun w L' hF hS hi' => by
  subst hsize hby
  have hr := Lib.run_append_nil_zeros (P := P) w t tn ty E I z k kn ht htn hi hz m h0 (by simpa using hsz) (by omega) (by rw [Nat.mul_comm]; omega)
  have hge := grownCap_ge w m 0 E
  have hcm : grownCap w m 0 E ≤ maxLen := grownCap_le_maxLen w m 0 E (by simp only [maxLen]; omega)
  have he : (execOp (ev e) ⟨some d, .call ⟨.builtin .append, #[S, N], #[t, tn]⟩, ty, pos, af, g⟩).run P w = .ok (.value (.slice (some ⟨w.heap.size, 0, none⟩) m (grownCap w m 0 E))) (w.drew.alloc (.cells (Builtin.zeroCells z.cells m ++ Builtin.zeroCells z.cells (grownCap w m 0 E - m)) E)) := by
    simp only [execOp, resolve, invoke, builtin, Sem.run_bind, Sem.run_pure, Result.andThen_ok, List.map_toArray, List.map_cons, List.map_nil, hs, hn, hr]
  unfold RunsTo
  rw [he]
  have hby := grown_by w (.cells (Builtin.zeroCells z.cells m ++ Builtin.zeroCells z.cells (grownCap w m 0 E - m)) E) none
  refine ⟨(w.heap.size, grownCap w m 0 E), rfl, hby.os, hby.tape, hby.output, hby.size, fun b hb _ => hby.block b hb (by simp), fun b => b = w.heap.size, ⟨⟨⟨⟨by simp, .inr ⟨w.heap.size, _, _, rfl, Nat.zero_le _, heap_alloc_new w.drew _, Nat.zero_le _, hcm, ?_, by simp⟩⟩, rfl, by simp⟩, fun b hb => ?_⟩, hge⟩, fun b hb => ?_⟩
  · simp only [Array.size_append, size_zeroCells, hzs]
    rw [← Nat.add_mul]
    congr 1
    omega
  · simp [Value.ownBlock] at hb; exact hb.symm
  · subst hb
    exact ⟨by simp, .inr (Nat.le_refl _)⟩
end rules
end Go.Lx

namespace Go.Lx
open Go Go.Vc Go.Md

section rules
variable {P : Program} {n : Nat} {cx : Cx} {e : Env} {L : List Chunk} {d : Nat} {ty : TypeId} {pos : String} {af : Array Edge} {g : Option (Nat × Bool)}

end rules
end Go.Lx

namespace Go.Lx
open Go Go.Vc Go.Md

section ops
variable {P : Program} {e : Env} {d : Option Nat} {ty : TypeId} {pos : String} {af : Array Edge} {g : Option (Nat × Bool)}

end ops

section rules
variable {P : Program} {n : Nat} {cx : Cx} {e : Env} {L : List Chunk} {d : Nat} {ty : TypeId} {pos : String} {af : Array Edge} {g : Option (Nat × Bool)}

theorem Turns.pre {σ : Type} {o : Oper} {i : Nat} {rds : List Nat} {G : σ → Value} {D : σ → Chunk} {C C' : Chunk} (hI : Imp C C') (hL : L[i]? = some C) (hr : i ∉ rds) (h : Turns P cx e o (L.set i C') i rds G D) : Turns P cx e o L i rds G D := by
  intro w L' hF hS hl hi
  have hLi := (hi i (.inr rfl)).trans hL
  have hS' : Sat cx w (L'.set i C') := hS.set hF hLi (Nat.le_refl _) fun S hp hb => ⟨S, hI.out S w hp, fun b hs => ⟨(hb b hs).1, .inl hs⟩, fun _ _ _ => rfl⟩
  have hil : i < L.length := by
    rcases Nat.lt_or_ge i L.length with h | h
    · exact h
    · rw [List.getElem?_eq_none h] at hL; cases hL
  have := h w (L'.set i C') hF hS' (by simp [hl]) fun j hj => by
    by_cases hji : j = i
    · subst hji; rw [List.getElem?_set_self (by omega), List.getElem?_set_self hil]
    · rw [List.getElem?_set_ne (fun e => hji e.symm), List.getElem?_set_ne (fun e => hji e.symm)]
      exact hi j (hj.imp_right fun h => h)
  simpa [List.set_set] using this

end rules
end Go.Lx

namespace Go.Lx
open Go Go.Vc Go.Md

section rules
variable {cx : Cx} {K : Env → World → Prop} {e : Env} {L : List Chunk}
theorem c_emp (k : At cx K e (L ++ [empC])) : At cx K e L := ⟨fun w hF hS => k.out w hF (hS.emp hF)⟩

end rules

section ops
variable {P : Program} {cx : Cx} {e : Env} {L : List Chunk} {d : Option Nat} {ty : TypeId} {pos : String} {af : Array Edge} {g : Option (Nat × Bool)}

end ops


section rules
variable {P : Program} {cx : Cx} {ops : Array Oper} {F : Env → List Chunk → Prop} {rest : List Oper} {ss : List Kd} {e : Env} {L : List Chunk} {d : Nat}
end rules
end Go.Lx

namespace Go.Lx
open Go Go.Vc Go.Md

section plain
variable {P : Program}

end plain

def markR (w : World) (E sz : Nat) (v : Value) (n : Nat) (xs : List (List Value)) : Prop :=
  ∃ g cap cur k, v = .slice (some ⟨g, 0, none⟩) n cap ∧ w.heap[g]? = some (.cells cur E k) ∧ cur.size ≤ k.1 ∧ n ≤ cap ∧ cap ≤ maxLen ∧ cur.size = cap * sz ∧ cur.toList.take (n * sz) = xs.flatten

def mkC (w : World) (E sz : Nat) (v : Value) (n : Nat) (xs : List (List Value)) : Prop :=
  (apC w E sz v n xs ∨ markR w E sz v n xs) ∧ xs.length = n ∧ ∀ x ∈ xs, x.length = sz

theorem markR.frs {w : World} {E sz : Nat} {v : Value} {n : Nat} {xs : List (List Value)} (h : markR w E sz v n xs) (hn : xs.length = n) (hl : ∀ x ∈ xs, x.length = sz) : FrS (fun b => w.heap[b]?) sz v xs := by
  obtain ⟨g, cap, cur, k, rfl, hh, _, hnc, hm, hcs, ht⟩ := h
  subst hn
  refine ⟨some ⟨g, 0, none⟩, cap, rfl, hnc, by simpa [maxLen] using hm, .inr ⟨g, 0, cur, E, k, rfl, hh, fun i x hx => ⟨hl x (List.mem_of_getElem? hx), fun j v hv => ?_⟩⟩⟩
  have hi : i < xs.length := by
    rcases Nat.lt_or_ge i xs.length with h | h
    · exact h
    · rw [List.getElem?_eq_none h] at hx; cases hx
  have hj : j < sz := by
    have := hl x (List.mem_of_getElem? hx)
    rcases Nat.lt_or_ge j x.length with h | h
    · omega
    · rw [List.getElem?_eq_none h] at hv; cases hv
  have hr := row_get xs i x (List.all_eq_true.2 fun x hx => by simpa using hl x hx) hx j v hv
  rw [← ht, List.getElem?_take] at hr
  split at hr
  · rw [Nat.zero_add, ← Array.getElem?_toList]; exact hr
  · cases hr

theorem mkC.frs {w : World} {E sz : Nat} {v : Value} {n : Nat} {xs : List (List Value)} (h : mkC w E sz v n xs) : FrS (fun b => w.heap[b]?) sz v xs :=
  h.1.elim (fun h1 => h1.frs) (fun h1 => h1.frs h.2.1 h.2.2)
theorem mkC.slice {w : World} {E sz : Nat} {v : Value} {n : Nat} {xs : List (List Value)} (h : mkC w E sz v n xs) : ∃ p : Option Addr × Nat, v = .slice p.1 n p.2 := by
  rcases h.1 with h1 | ⟨g, cap, cur, k, rfl, _⟩
  · exact h1.slice
  · exact ⟨(some ⟨g, 0, none⟩, cap), rfl⟩

section rules
variable {P : Program} {n : Nat} {cx : Cx} {e : Env} {L : List Chunk} {d : Nat} {ty : TypeId} {pos : String} {af : Array Edge} {g : Option (Nat × Bool)}

end rules


end Go.Lx

namespace Go.Lx
open Go Go.Vc Go.Md
open Go.MapKept (IsKey Stamped)

structure KeyF {κ : Type} (d : TypeDesc) (fk : κ → Value) : Prop where
  isKey : ∀ k, IsKey d (fk k)
  inj : ∀ a b, fk a = fk b → a = b

theorem keyF_int {k : IntKind} : KeyF (.int k) (fun x : Int => Value.int k x) := ⟨fun x => by simp [IsKey], fun a b h => by simpa using h⟩
def Ents {κ ν : Type} (fk : κ → Value) (fv : ν → Value) (es : List MapEntry) (xs : List (κ × ν)) : Prop := es.map (fun e => (e.key, e.val)) = xs.map (fun p => (fk p.1, fv p.2))

def mapC {κ ν : Type} (fk : κ → Value) (fv : ν → Value) (b : Nat) (xs : List (κ × ν)) : Chunk where
  P S w := (∀ x, S x ↔ x = b) ∧ ∃ es clock, w.heap[b]? = some (.map es clock) ∧ Stamped es clock ∧ Ents fk fv es.toList xs
  loc S w w' h hp := ⟨hp.1, by rw [h b ((hp.1 b).2 rfl)]; exact hp.2⟩

theorem Ents.len {κ ν : Type} {fk : κ → Value} {fv : ν → Value} {es : List MapEntry} {xs : List (κ × ν)} (h : Ents fk fv es xs) : es.length = xs.length := by
  have := congrArg List.length h; simpa using this
theorem Ents.keys {κ ν : Type} {fk : κ → Value} {fv : ν → Value} {es : List MapEntry} {xs : List (κ × ν)} (h : Ents fk fv es xs) : es.map (·.key) = xs.map (fun p => fk p.1) := by
  have := congrArg (List.map Prod.fst) h; simpa [Function.comp_def] using this
theorem Ents.isKey {κ ν : Type} {d : TypeDesc} {fk : κ → Value} {fv : ν → Value} (K : KeyF d fk) {es : List MapEntry} {xs : List (κ × ν)} (h : Ents fk fv es xs) : ∀ x ∈ es, IsKey d x.key := by
  intro x hx
  have : x.key ∈ es.map (·.key) := List.mem_map.2 ⟨x, hx, rfl⟩
  rw [h.keys] at this
  obtain ⟨p, _, hp⟩ := List.mem_map.1 this
  rw [← hp]; exact K.isKey _
theorem Ents.at {κ ν : Type} {fk : κ → Value} {fv : ν → Value} {es : List MapEntry} {xs : List (κ × ν)} (h : Ents fk fv es xs) {j : Nat} {e : MapEntry} (he : es[j]? = some e) : ∃ p, xs[j]? = some p ∧ e.key = fk p.1 ∧ e.val = fv p.2 := by
  have := congrArg (fun l => l[j]?) h
  simp only [List.getElem?_map, he, Option.map_some] at this
  cases hx : xs[j]? with
  | none => rw [hx] at this; simp at this
  | some p => rw [hx] at this; simp at this; exact ⟨p, rfl, this.1, this.2⟩

section find
variable {κ ν : Type} [DecidableEq κ] {d : TypeDesc} {fk : κ → Value} {fv : ν → Value}

theorem mGet_none {xs : List (κ × ν)} {k : κ} (h : ∀ p ∈ xs, p.1 ≠ k) : mGet xs k = none ∧ mHas xs k = false := by
  constructor
  · unfold mGet
    rw [List.find?_eq_none.2 (fun p hp => by simpa using h p hp)]; rfl
  · unfold mHas
    rw [List.any_eq_false]
    intro p hp; simpa using h p hp
theorem mGet_at : ∀ {xs : List (κ × ν)} {k : κ} {j : Nat} {v : ν}, (xs.map (·.1)).Nodup → xs[j]? = some (k, v) → mGet xs k = some v ∧ mHas xs k = true
  | [], _, j, _, _, h => by simp at h
  | p :: xs, k, 0, v, _, h => by simp at h; subst h; simp [mGet, mHas]
  | p :: xs, k, j + 1, v, hn, h => by
    simp only [List.getElem?_cons_succ] at h
    simp only [List.map_cons, List.nodup_cons] at hn
    have hne : p.1 ≠ k := fun q => hn.1 (q ▸ List.mem_map.2 ⟨(k, v), List.mem_of_getElem? h, rfl⟩)
    obtain ⟨h1, h2⟩ := mGet_at hn.2 h
    constructor
    · unfold mGet at h1 ⊢
      rw [List.find?_cons_of_neg (by simpa using hne)]; exact h1
    · unfold mHas at h2 ⊢
      simp only [List.any_cons, h2, Bool.or_true]

omit [DecidableEq κ] in
theorem nodup_of (K : KeyF d fk) {es : List MapEntry} {xs : List (κ × ν)} (h : Ents fk fv es xs) (hn : (es.map (·.key)).Nodup) : (xs.map (·.1)).Nodup := by
  rw [h.keys] at hn
  have : xs.map (fun p => fk p.1) = (xs.map (·.1)).map fk := by simp
  rw [this] at hn
  exact (List.pairwise_map.1 hn).imp fun h q => h (congrArg fk q)

theorem find_map (K : KeyF d fk) {es : List MapEntry} {xs : List (κ × ν)} (h : Ents fk fv es xs) (hn : (es.map (·.key)).Nodup) (k : κ) :
    (Instr.findNow d (fk k) es 0 = some none ∧ (∀ x ∈ es, x.key ≠ fk k) ∧ mGet xs k = none ∧ mHas xs k = false) ∨
    ∃ j e v, Instr.findNow d (fk k) es 0 = some (some (j, e.val)) ∧ es[j]? = some e ∧ e.key = fk k ∧ e.val = fv v ∧ xs[j]? = some (k, v) ∧ mGet xs k = some v ∧ mHas xs k = true := by
  rcases Go.MapKept.findNow_spec (K.isKey k) es 0 (h.isKey K) with ⟨h1, h2⟩ | ⟨j, e, h1, h2, h3⟩
  · refine .inl ⟨h1, h2, mGet_none fun p hp q => ?_⟩
    have : fk p.1 ∈ es.map (·.key) := by rw [h.keys]; exact List.mem_map.2 ⟨p, hp, rfl⟩
    obtain ⟨x, hx, hk⟩ := List.mem_map.1 this
    exact h2 x hx (by rw [hk, q])
  · obtain ⟨p, hp, e1, e2⟩ := h.at h2
    have hk : p.1 = k := K.inj _ _ (e1.symm.trans h3)
    have hp' : xs[j]? = some (k, p.2) := by rw [hp, ← hk]
    have := mGet_at (nodup_of K h hn) hp'
    exact .inr ⟨j, e, p.2, by simpa using h1, h2, h3, e2, hp', this.1, this.2⟩
end find

theorem ents_modify {κ ν : Type} [DecidableEq κ] {fk : κ → Value} {fv : ν → Value} {es : Array MapEntry} {xs : List (κ × ν)} {j : Nat} {k : κ} {v v0 : ν} (h : Ents fk fv es.toList xs) (hn : (xs.map (·.1)).Nodup) (hj : xs[j]? = some (k, v0)) (hh : mHas xs k = true) :
    Ents fk fv (es.modify j fun e => { e with key := fk k, val := fv v }).toList (mSet xs k v) := by
  have hm : mSet xs k v = xs.map fun p => if p.1 = k then (k, v) else p := by unfold mSet; rw [if_pos hh]
  rw [hm]
  unfold Ents
  apply List.ext_getElem?
  intro i
  have hi := congrArg (fun l => l[i]?) h
  simp only [List.getElem?_map, Array.getElem?_toList, Array.getElem?_modify] at hi ⊢
  by_cases hij : j = i
  · subst hij
    rw [hj] at hi ⊢
    simp only [if_true, Option.map_some, Option.map_map]
    cases he : es[j]? with
    | none => rw [he] at hi; simp at hi
    | some e => simp
  · rw [if_neg hij, hi]
    cases hx : xs[i]? with
    | none => rfl
    | some p =>
      have hne : p.1 ≠ k := by
        intro q
        have hil : i < xs.length := by
          rcases Nat.lt_or_ge i xs.length with h | h
          · exact h
          · rw [List.getElem?_eq_none h] at hx; cases hx
        have hjl : j < xs.length := by
          rcases Nat.lt_or_ge j xs.length with h | h
          · exact h
          · rw [List.getElem?_eq_none h] at hj; cases hj
        have H := List.pairwise_iff_getElem.1 hn
        have ej : (xs.map (·.1))[j]'(by simpa using hjl) = k := by
          have := (List.getElem?_eq_some_iff.1 hj).2; simp [this]
        have ei : (xs.map (·.1))[i]'(by simpa using hil) = k := by
          have := (List.getElem?_eq_some_iff.1 hx).2; simp [this, q]
        rcases Nat.lt_trichotomy j i with l | l | l
        · exact H j i (by simpa using hjl) (by simpa using hil) l (ej.trans ei.symm)
        · exact hij l
        · exact H i j (by simpa using hil) (by simpa using hjl) l (ei.trans ej.symm)
      simp [hne]

theorem ents_push {κ ν : Type} [DecidableEq κ] {fk : κ → Value} {fv : ν → Value} {es : Array MapEntry} {xs : List (κ × ν)} {k : κ} {v : ν} {c : Nat} (h : Ents fk fv es.toList xs) (hh : mHas xs k = false) :
    Ents fk fv (es.push { key := fk k, val := fv v, born := c }).toList (mSet xs k v) := by
  have hm : mSet xs k v = xs ++ [(k, v)] := by unfold mSet; rw [if_neg (by simp [hh])]
  rw [hm]
  unfold Ents at h ⊢
  simp [h]

section ops
variable {P : Program} {cx : Cx} {e : Env} {L : List Chunk} {ty : TypeId} {pos : String} {af : Array Edge} {g : Option (Nat × Bool)}
variable {κ ν : Type} [DecidableEq κ] {fk : κ → Value} {fv : ν → Value}

omit [DecidableEq κ] in
theorem makes_map {t d : Nat} {rds : List Nat} : Makes P cx e ⟨some d, .makeMap t none, ty, pos, af, g⟩ L rds (fun b : Nat => .map (some b)) (fun b => mapC fk fv b ([] : List (κ × ν))) := fun w L' hF hS _ => by
  unfold RunsTo
  have hr : (execOp (ev e) ⟨some d, .makeMap t none, ty, pos, af, g⟩).run P w = .ok (.value (.map (some w.heap.size))) (w.alloc (.map #[] 0)) := by
    simp [execOp, Instr.makeMap]
  rw [hr]
  have gr := grow_alloc w (.map #[] 0)
  exact ⟨w.heap.size, rfl, gr.os, gr.tape, gr.output, gr.size, fun b hb _ => gr.block b hb, fun x => x = w.heap.size, ⟨fun _ => Iff.rfl, #[], 0, Go.heap_alloc_new w _, Go.MapKept.stamped_empty 0, rfl⟩, fun b hb => by subst hb; exact ⟨by simp, .inr (Nat.le_refl _)⟩⟩

theorem run_lookup {d : Option Nat} {dk : TypeDesc} {t kt et : TypeId} {X I : Operand} {b i : Nat} {xs : List (κ × ν)} {k : κ} {z : ν} {w : World} (K : KeyF dk fk) (ht : P.underlying t = some (.map kt et)) (hk : P.underlying kt = some dk) (hz : ∀ w, (zeroValue et).run P w = .ok (fv z) w)
    (hx : ev e X = .map (some b)) (hi : ev e I = fk k) (hS : Sat cx w L) (hL : L[i]? = some (mapC fk fv b xs)) :
    (execOp (ev e) ⟨d, .lookup t X I false, ty, pos, af, g⟩).run P w = .ok (.value (fv ((mGet xs k).getD z))) w := by
  obtain ⟨S, ⟨_, es, clock, hb, hst, hen⟩, _⟩ := hS.at hL
  rcases find_map K hen hst.2.2 k with ⟨h1, _, h3, _⟩ | ⟨j, e0, v, h1, _, _, h4, _, h6, _⟩
  · simp [execOp, Instr.lookup, hx, hi, run_underlying ht, Go.MapKept.run_getObj_map hb, Go.MapKept.run_checkKey hk (K.isKey k), Go.MapKept.run_findKey hk h1, hz w, h3, Result.andThen]
  · simp [execOp, Instr.lookup, hx, hi, run_underlying ht, Go.MapKept.run_getObj_map hb, Go.MapKept.run_checkKey hk (K.isKey k), Go.MapKept.run_findKey hk h1, h6, h4, Result.andThen]

theorem run_lookupOk {d : Option Nat} {dk : TypeDesc} {t kt et : TypeId} {X I : Operand} {b i : Nat} {xs : List (κ × ν)} {k : κ} {z : ν} {w : World} (K : KeyF dk fk) (ht : P.underlying t = some (.map kt et)) (hk : P.underlying kt = some dk) (hz : ∀ w, (zeroValue et).run P w = .ok (fv z) w)
    (hx : ev e X = .map (some b)) (hi : ev e I = fk k) (hS : Sat cx w L) (hL : L[i]? = some (mapC fk fv b xs)) :
    (execOp (ev e) ⟨d, .lookup t X I true, ty, pos, af, g⟩).run P w = .ok (.value (.tuple #[fv ((mGet xs k).getD z), .bool (mHas xs k)])) w := by
  obtain ⟨S, ⟨_, es, clock, hb, hst, hen⟩, _⟩ := hS.at hL
  rcases find_map K hen hst.2.2 k with ⟨h1, _, h3, h5⟩ | ⟨j, e0, v, h1, _, _, h4, _, h6, h7⟩
  · simp [execOp, Instr.lookup, hx, hi, run_underlying ht, Go.MapKept.run_getObj_map hb, Go.MapKept.run_checkKey hk (K.isKey k), Go.MapKept.run_findKey hk h1, hz w, h3, h5, Result.andThen]
  · simp [execOp, Instr.lookup, hx, hi, run_underlying ht, Go.MapKept.run_getObj_map hb, Go.MapKept.run_checkKey hk (K.isKey k), Go.MapKept.run_findKey hk h1, h6, h4, h7, Result.andThen]

omit [DecidableEq κ] in
theorem run_lenMap {d : Option Nat} {t : TypeId} {kt et : TypeId} {X : Operand} {b i : Nat} {xs : List (κ × ν)} {w : World} {tys : Array TypeId} (ht : P.underlying t = some (.map kt et)) (hx : ev e X = .map (some b)) (hS : Sat cx w L) (hL : L[i]? = some (mapC fk fv b xs)) (hty : tys = #[t]) :
    (execOp (ev e) ⟨d, .call ⟨.builtin .len, #[X], tys⟩, ty, pos, af, g⟩).run P w = .ok (.value (.int .i64 (xs.length : Int))) w := by
  subst hty
  obtain ⟨S, ⟨_, es, clock, hb, hst, hen⟩, _⟩ := hS.at hL
  have hl : es.size = xs.length := by have := hen.len; simpa using this
  simp [execOp, resolve, invoke, builtin, hx, Builtin.len_, run_underlying ht, Go.MapKept.run_getObj_map hb, Result.andThen, goInt, hl]

theorem turns_mset {u : Bool} {dk : TypeDesc} {t kt et : TypeId} {M I X : Operand} {b i : Nat} {xs : List (κ × ν)} {k : κ} {v : ν} {rds : List Nat} {o : Op} (K : KeyF dk fk) (ho : o = .insert t M I X ∨ o = .mapUpdate t M I X) (ht : P.underlying t = some (.map kt et)) (hk : P.underlying kt = some dk)
    (hm : ev e M = .map (some b)) (hi : ev e I = fk k) (hx : ev e X = fv v) (hL : L[i]? = some (mapC fk fv b xs)) {dst : Option Nat} :
    Turns P cx e ⟨dst, o, ty, pos, af, g⟩ L i rds (fun _ : Unit => undef) (fun _ => mapC fk fv b (mSet xs k v)) := fun w L' hF hS _ hi' => by
  have hL' := (hi' i (.inr rfl)).trans hL
  obtain ⟨S, ⟨_, es, clock, hb, hst, hen⟩, _⟩ := hS.at hL'
  have hlt : b < w.heap.size := (Array.getElem?_eq_some_iff.1 hb).1
  obtain ⟨es', clock', hrun, hst', hen'⟩ : ∃ es' clock', (execOp (ev e) ⟨dst, o, ty, pos, af, g⟩).run P w = .ok .skip { w with heap := w.heap.setIfInBounds b (.map es' clock') } ∧ Stamped es' clock' ∧ Ents fk fv es'.toList (mSet xs k v) := by
    rcases find_map K hen hst.2.2 k with ⟨h1, h2, _, h4⟩ | ⟨j, e0, v0, h1, h2, h3, _, h5, _, h7⟩
    · refine ⟨_, _, ?_, Go.MapKept.stamped_push hst h2, ents_push (v := v) hen h4⟩
      rcases ho with rfl | rfl <;> simp [execOp, Instr.mapUpdate, hm, hi, hx, run_underlying ht, Go.MapKept.run_getObj_map hb, Go.MapKept.run_checkKey hk (K.isKey k), Go.MapKept.run_findKey hk h1, Go.MapKept.run_setObj_map _ hb, Result.andThen]
    · have h2' : es[j]? = some e0 := by simpa using h2
      refine ⟨es.modify j fun e => { e with key := fk k, val := fv v }, clock, ?_, Go.MapKept.stamped_modify hst j _ (fun _ _ => rfl) (fun x _ hx => by rw [h2'] at hx; cases hx; exact h3.symm), ents_modify (v := v) hen (nodup_of K hen hst.2.2) h5 h7⟩
      rcases ho with rfl | rfl <;> simp [execOp, Instr.mapUpdate, hm, hi, hx, run_underlying ht, Go.MapKept.run_getObj_map hb, Go.MapKept.run_checkKey hk (K.isKey k), Go.MapKept.run_findKey hk h1, h2', h3, Go.MapKept.run_keyThatStays (K.isKey k), Go.MapKept.run_setObj_map _ hb, Result.andThen]
  unfold RunsTo
  rw [hrun]
  have hS' := hS.turnOf (w' := { w with heap := w.heap.setIfInBounds b (.map es' clock') }) hF hL' (C := mapC fk fv b (mSet xs k v)) fun S1 hp1 =>
    ⟨rfl, rfl, rfl, by simp, fun x _ hx => by rw [Array.getElem?_setIfInBounds_ne (fun h => hx ((hp1.1 x).2 h.symm))], S1, ⟨hp1.1, es', clock', by simp [hlt], hst', hen'⟩, fun x hx => ⟨by rw [(hp1.1 x).1 hx]; simpa using hlt, .inl hx⟩⟩
  exact ⟨(), rfl, hS'.1, hS'.2⟩


theorem filter_born : ∀ {l : List MapEntry} {j : Nat} {e : MapEntry}, (l.map (·.born)).Nodup → l[j]? = some e → l.filter (fun x => decide (x.born ≠ e.born)) = l.eraseIdx j
  | [], _, _, _, h => by simp at h
  | x :: l, 0, e, hn, h => by
    simp at h; subst h
    simp only [List.map_cons, List.nodup_cons] at hn
    rw [List.filter_cons_of_neg (by simp)]
    simp only [List.eraseIdx_cons_zero]
    exact List.filter_eq_self.2 fun y hy => by
      have : y.born ≠ x.born := fun q => hn.1 (q ▸ List.mem_map.2 ⟨y, hy, rfl⟩)
      simpa using this
  | x :: l, j + 1, e, hn, h => by
    simp only [List.getElem?_cons_succ] at h
    simp only [List.map_cons, List.nodup_cons] at hn
    have : x.born ≠ e.born := fun q => hn.1 (q ▸ List.mem_map.2 ⟨e, List.mem_of_getElem? h, rfl⟩)
    rw [List.filter_cons_of_pos (by simpa using this), List.eraseIdx_cons_succ, filter_born hn.2 h]

omit [DecidableEq κ] in
theorem Ents.erase {es : List MapEntry} {xs : List (κ × ν)} (h : Ents fk fv es xs) (j : Nat) : Ents fk fv (es.eraseIdx j) (xs.eraseIdx j) := by
  unfold Ents at h ⊢
  have E : ∀ {α β : Type} (f : α → β) (l : List α) (j : Nat), (l.eraseIdx j).map f = (l.map f).eraseIdx j := by
    intro α β f l
    induction l with
    | nil => intro j; simp
    | cons x l ih => intro j; cases j <;> simp [ih]
  rw [E, E, h]

end ops

section rules
variable {P : Program} {n : Nat} {cx : Cx} {Q : Post} {e : Env} {L : List Chunk} {ops : Array Oper} {rest_ : List Oper} {ty : TypeId} {pos : String} {af : Array Edge} {g : Option (Nat × Bool)} {κ ν : Type} {fk : κ → Value} {fv : ν → Value}
end rules
end Go.Lx

namespace Go.Lx
open Go Go.Vc Go.Md
open Go.MapKept (IsKey Stamped)

structure FrM {κ ν : Type} (h : Heap) (fk : κ → Value) (fv : ν → Value) (v : Value) (xs : List (κ × ν)) : Prop where
  out : ∃ b es clock, v = .map (some b) ∧ h b = some (.map es clock) ∧ Stamped es clock ∧ Ents fk fv es.toList xs

section
variable {κ ν : Type} {fk : κ → Value} {fv : ν → Value} {h h' : Heap} {v : Value} {xs : List (κ × ν)}
theorem FrM.mono (f : FrM h fk fv v xs) (k : ∀ b o, h b = some o → h' b = some o) : FrM h' fk fv v xs := by
  obtain ⟨b, es, c, h1, h2, h3, h4⟩ := f.out
  exact ⟨b, es, c, h1, k _ _ h2, h3, h4⟩
theorem FrM.cells (f : FrM h fk fv v xs) : v.cells.toList = [v] := by
  obtain ⟨b, es, c, rfl, _⟩ := f.out; rfl
end

section
variable {P : Program} {cx : Cx} {e : Env} {L : List Chunk} {ty : TypeId} {pos : String} {af : Array Edge} {g : Option (Nat × Bool)}
variable {κ ν : Type} {fk : κ → Value} {fv : ν → Value}
end
end Go.Lx
namespace Go.Vc
open Go Go.Md Go.Shelf Go.Sort Go.Proofs

end Go.Vc

namespace Go.Vc
open Go Go.Md Go.Shelf Go.Sort Go.Proofs

end Go.Vc

namespace Go.Lx
open Go Go.Vc Go.Md


def cutL {β : Type} (xs : List β) (l q : Int) : List β := (xs.drop l.toNat).take (q.toNat - l.toNat)

section allc
variable {α : Type} {G : Heap → (Nat → Value) → α → Prop} {h : Heap} {sz : Nat} {css : List (List Value)} {xs ys : List α} {l q : Int}
theorem AllC.cut (p : AllC G h sz css xs) (g : gCut xs l q = some ys) : AllC G h sz (cutL css l q) ys := by
  obtain ⟨g0, g1, g2, rfl⟩ := gCut_some g
  refine ⟨by simp [cutL, p.len], fun i cs x h1 h2 => ?_⟩
  unfold cutL at h1
  rw [List.getElem?_take] at h1 h2
  split at h1
  · rename_i hi
    rw [if_pos hi] at h2
    rw [List.getElem?_drop] at h1 h2
    exact p.el _ cs x h1 h2
  · cases h1
theorem AllC.append {cs2 : List (List Value)} (p : AllC G h sz css xs) (q : AllC G h sz cs2 ys) : AllC G h sz (css ++ cs2) (xs ++ ys) := by
  refine ⟨by simp [p.len, q.len], fun i c x hc hx => ?_⟩
  have hl := p.len
  by_cases hi : i < css.length
  · rw [List.getElem?_append_left hi] at hc
    rw [List.getElem?_append_left (by omega)] at hx
    exact p.el i c x hc hx
  · rw [List.getElem?_append_right (by omega)] at hc
    rw [List.getElem?_append_right (by omega), ← hl] at hx
    exact q.el _ c x hc hx
end allc


section rules
variable {P : Program} {n : Nat} {cx : Cx} {e : Env} {L : List Chunk} {d : Nat} {ty : TypeId} {pos : String} {af : Array Edge} {g : Option (Nat × Bool)}



def offR (w : World) (E sz : Nat) (v : Value) (n : Nat) (xs : List (List Value)) : Prop :=
  ∃ g off cap cur, v = .slice (some ⟨g, off, none⟩) n cap ∧ w.heap[g]? = some (.cells cur E (0, 0)) ∧ n ≤ cap ∧ cap ≤ maxLen ∧ off + cap * sz ≤ cur.size ∧ (cur.toList.drop off).take (n * sz) = xs.flatten

theorem offR.frs {w : World} {E sz : Nat} {v : Value} {n : Nat} {xs : List (List Value)} (h : offR w E sz v n xs) (hn : xs.length = n) (hl : ∀ x ∈ xs, x.length = sz) : FrS (fun b => w.heap[b]?) sz v xs := by
  obtain ⟨g, off, cap, cur, rfl, hh, hnc, hm, hcs, ht⟩ := h
  subst hn
  refine ⟨some ⟨g, off, none⟩, cap, rfl, hnc, by simpa [maxLen] using hm, .inr ⟨g, off, cur, E, (0, 0), rfl, hh, fun i x hx => ⟨hl x (List.mem_of_getElem? hx), fun j v hv => ?_⟩⟩⟩
  have hr := row_get xs i x (List.all_eq_true.2 fun x hx => by simpa using hl x hx) hx j v hv
  rw [← ht, List.getElem?_take] at hr
  split at hr
  · rw [List.getElem?_drop, Array.getElem?_toList] at hr
    rw [← hr, Nat.add_assoc]
  · cases hr

end rules



section rules
variable {P : Program} {cx : Cx} {ops : Array Oper} {F : Env → List Chunk → Prop} {rest : List Oper} {ss : List Kd} {e : Env} {L : List Chunk} {d : Nat}
end rules
end Go.Lx

namespace Go.Lx
open Go Go.Vc Go.Md

end Go.Lx
namespace Go.Lx
open Go Go.Vc Go.Md

section rules
variable {P : Program} {n : Nat} {cx : Cx} {e : Env} {L : List Chunk} {ops : Array Oper} {rest : List Oper} {F : Env → List Chunk → Prop} {ss : List Kd} {ty : TypeId} {pos : String} {af : Array Edge} {g : Option (Nat × Bool)}

end rules
end Go.Lx

namespace Go.Lx
open Go Go.Vc Go.Md
section
variable {cx : Cx} {K : Env → World → Prop} {e : Env} {L : List Chunk}
end
end Go.Lx

namespace Go.Lx
open Go Go.Vc Go.Md
section
variable {P : Program} {n : Nat} {cx : Cx} {e : Env} {L : List Chunk} {ops : Array Oper} {rest : List Oper} {F : Env → List Chunk → Prop} {ss : List Kd} {ty : TypeId} {pos : String} {af : Array Edge} {g : Option (Nat × Bool)}

end
end Go.Lx

namespace Go.Lx
open Go Go.Vc Go.Md

section
variable {P : Program} {n : Nat} {cx : Cx} {e : Env} {L : List Chunk} {ops : Array Oper} {rest : List Oper} {F : Env → List Chunk → Prop} {ss : List Kd} {ty : TypeId} {pos : String} {af : Array Edge} {g : Option (Nat × Bool)}

end
end Go.Lx

namespace Go.Lx
open Go Go.Vc Go.Md
section
variable {P : Program} {n : Nat} {cx : Cx} {e : Env} {L : List Chunk} {ty : TypeId} {pos : String} {af : Array Edge} {g : Option (Nat × Bool)}

end
end Go.Lx

namespace Go.Lx
open Go Go.Vc Go.Md

section
variable {P : Program} {n : Nat} {cx : Cx} {e : Env} {L : List Chunk} {d : Option Nat} {ty : TypeId} {pos : String} {af : Array Edge} {g : Option (Nat × Bool)}

end
end Go.Lx

namespace Go.Lx
open Go Go.Vc Go.Md
section
variable {cx : Cx} {L : List Chunk} {w : World}
end
end Go.Lx

namespace Go.Lx
open Go Go.Vc Go.Md
end Go.Lx

namespace Go.Lx
open Go Go.Vc Go.Md

section
variable {P : Program} {n : Nat} {cx : Cx} {e : Env} {L : List Chunk} {d : Nat} {ty : TypeId} {pos : String} {af : Array Edge} {g : Option (Nat × Bool)}

end
end Go.Lx

namespace Go.Lx
open Go Go.Vc Go.Md
end Go.Lx

namespace Go.Vc
open Go
section
variable {P : Program} {cx : Cx} {e : Env} {L : List Chunk}
end
end Go.Vc

namespace Go.Lx
open Go Go.Vc Go.Md
section
variable {cx : Cx} {L : List Chunk}
end
end Go.Lx

namespace Go.Lx
open Go Go.Md Go.Vc Go.Shelf Go.Sort Go.Proofs

end Go.Lx

namespace Go.Lx
open Go Go.Md Go.Vc Go.Shelf Go.Sort Go.Proofs

section
variable {P : Program} {n : Nat} {cx : Cx} {Q : Post} {e : Env} {L : List Chunk} {ops : Array Oper} {rest : List Oper} {d : Nat} {ty : TypeId} {pos : String} {af : Array Edge} {g : Option (Nat × Bool)} {X : Operand}
end
section
variable {P : Program} {cx : Cx} {e : Env} {L : List Chunk} {ops : Array Oper} {F : Env → List Chunk → Prop} {rest : List Oper} {ss : List Kd} {d : Nat} {ty : TypeId} {pos : String} {af : Array Edge} {g : Option (Nat × Bool)} {X : Operand}
end
section
variable {α : Type} {a b : α} {l : List α} {n : Nat}
end
end Go.Lx

namespace Go.Lx
open Go Go.Vc Go.Md
open Go.MapKept (IsKey Stamped)

structure KeyG {κ : Type} [DecidableEq κ] (P : Program) (kt : TypeId) (fk : κ → Value) : Prop where
  inj : ∀ a b, fk a = fk b → a = b
  chk : ∀ k em w, (Instr.checkKey em 10000 kt (fk k)).run P w = .ok () w
  now : ∃ d, P.underlying kt = some d ∧ ∀ a b, Instr.sameNow d (fk a) (fk b) = none
  eql : ∀ a b w, (Op.equal kt (fk a) (fk b)).run P w = .ok (decide (a = b)) w
  bits : ∀ k, Instr.sameBits 10000 (fk k) (fk k) = true

section find
variable {κ ν : Type} [DecidableEq κ] {P : Program} {kt : TypeId} {fk : κ → Value} {fv : ν → Value}

theorem nodup_ofG (K : KeyG P kt fk) {es : List MapEntry} {xs : List (κ × ν)} (h : Ents fk fv es xs) (hn : (es.map (·.key)).Nodup) : (xs.map (·.1)).Nodup := by
  rw [h.keys] at hn
  have : xs.map (fun p => fk p.1) = (xs.map (·.1)).map fk := by simp
  rw [this] at hn
  exact (List.pairwise_map.1 hn).imp fun h q => h (congrArg fk q)

theorem asking (K : KeyG P kt fk) (k : κ) : ∀ (es : List MapEntry) (xs : List (κ × ν)) (i : Nat), Ents fk fv es xs →
    ((∀ w, (Instr.findAsking kt (fk k) es i).run P w = .ok none w) ∧ ∀ p ∈ xs, p.1 ≠ k) ∨
    ∃ j e v, (∀ w, (Instr.findAsking kt (fk k) es i).run P w = .ok (some (i + j, e.val)) w) ∧ es[j]? = some e ∧ e.key = fk k ∧ e.val = fv v ∧ xs[j]? = some (k, v)
  | [], xs, i, h => by
    have : xs = [] := by unfold Ents at h; simpa using h.symm
    subst this
    exact .inl ⟨fun w => by simp [Instr.findAsking], fun p hp => by cases hp⟩
  | e :: es, [], i, h => by unfold Ents at h; simp at h
  | e :: es, p :: xs, i, h => by
    have h' := h
    unfold Ents at h'
    simp only [List.map_cons, List.cons.injEq, Prod.mk.injEq] at h'
    obtain ⟨⟨h1, h2⟩, h3⟩ := h'
    by_cases hk : k = p.1
    · refine .inr ⟨0, e, p.2, fun w => ?_, rfl, by rw [h1, hk], h2, by rw [hk]; rfl⟩
      simp [Instr.findAsking, h1, K.eql, hk, Result.andThen]
    · have hs : ∀ w, (Instr.findAsking kt (fk k) (e :: es) i).run P w = (Instr.findAsking kt (fk k) es (i + 1)).run P w := fun w => by
        rw [Instr.findAsking]
        simp [h1, K.eql, hk, Result.andThen]
      rcases asking K k es xs (i + 1) h3 with ⟨h4, h5⟩ | ⟨j, e', v, h4, h5, h6, h7, h8⟩
      · refine .inl ⟨fun w => by rw [hs, h4], fun q hq => ?_⟩
        rcases List.mem_cons.1 hq with rfl | hq
        · exact fun e => hk e.symm
        · exact h5 q hq
      · exact .inr ⟨j + 1, e', v, fun w => by rw [hs, h4]; congr 3; omega, by simpa using h5, h6, h7, by simpa using h8⟩

theorem find_mapG (K : KeyG P kt fk) {es : List MapEntry} {xs : List (κ × ν)} (h : Ents fk fv es xs) (hn : (es.map (·.key)).Nodup) (k : κ) :
    ((∀ w, (Instr.findKey kt (fk k) es).run P w = .ok none w) ∧ (∀ x ∈ es, x.key ≠ fk k) ∧ mGet xs k = none ∧ mHas xs k = false) ∨
    ∃ j e v, (∀ w, (Instr.findKey kt (fk k) es).run P w = .ok (some (j, e.val)) w) ∧ es[j]? = some e ∧ e.key = fk k ∧ e.val = fv v ∧ xs[j]? = some (k, v) ∧ mGet xs k = some v ∧ mHas xs k = true := by
  obtain ⟨d, hd, hs⟩ := K.now
  have hfk : ∀ w, (Instr.findKey kt (fk k) es).run P w = (Instr.findAsking kt (fk k) es 0).run P w := fun w => by
    cases hes : es with
    | nil => simp [Instr.findKey, run_underlying hd, Result.andThen, Instr.findNow, Instr.findAsking]
    | cons e es' =>
      have h' := h
      rw [hes] at h'
      obtain ⟨p, _, hp, _⟩ := h'.at (j := 0) (e := e) rfl
      simp [Instr.findKey, run_underlying hd, Result.andThen, Instr.findNow, hp, hs]
  rcases asking K k es xs 0 h with ⟨h1, h2⟩ | ⟨j, e, v, h1, h2, h3, h4, h5⟩
  · refine .inl ⟨fun w => by rw [hfk, h1], fun x hx q => ?_, mGet_none h2⟩
    have : x.key ∈ es.map (·.key) := List.mem_map.2 ⟨x, hx, rfl⟩
    rw [h.keys] at this
    obtain ⟨p, hp, hpk⟩ := List.mem_map.1 this
    exact h2 p hp (K.inj _ _ (hpk.trans q))
  · have := mGet_at (nodup_ofG K h hn) h5
    exact .inr ⟨j, e, v, fun w => by rw [hfk, h1]; simp, h2, h3, h4, h5, this.1, this.2⟩
end find

section rules
variable {P : Program} {cx : Cx} {e : Env} {L : List Chunk} {ty : TypeId} {pos : String} {af : Array Edge} {g : Option (Nat × Bool)}
variable {κ ν : Type} [DecidableEq κ] {fk : κ → Value} {fv : ν → Value}

theorem run_lookupG {d : Option Nat} {t kt et : TypeId} {X I : Operand} {b i : Nat} {xs : List (κ × ν)} {k : κ} {z : ν} {w : World} (K : KeyG P kt fk) (ht : P.underlying t = some (.map kt et)) (hz : ∀ w, (zeroValue et).run P w = .ok (fv z) w)
    (hx : ev e X = .map (some b)) (hi : ev e I = fk k) (hS : Sat cx w L) (hL : L[i]? = some (mapC fk fv b xs)) :
    (execOp (ev e) ⟨d, .lookup t X I false, ty, pos, af, g⟩).run P w = .ok (.value (fv ((mGet xs k).getD z))) w := by
  obtain ⟨S, ⟨_, es, clock, hb, hst, hen⟩, _⟩ := hS.at hL
  rcases find_mapG K hen hst.2.2 k with ⟨h1, _, h3, _⟩ | ⟨j, e0, v, h1, _, _, h4, _, h6, _⟩
  · simp [execOp, Instr.lookup, hx, hi, run_underlying ht, Go.MapKept.run_getObj_map hb, K.chk, h1, hz w, h3, Result.andThen]
  · simp [execOp, Instr.lookup, hx, hi, run_underlying ht, Go.MapKept.run_getObj_map hb, K.chk, h1, h6, h4, Result.andThen]

theorem turns_msetG {u : Bool} {t kt et : TypeId} {M I X : Operand} {b i : Nat} {xs : List (κ × ν)} {k : κ} {v : ν} {rds : List Nat} {o : Op} (K : KeyG P kt fk) (ho : o = .insert t M I X ∨ o = .mapUpdate t M I X) (ht : P.underlying t = some (.map kt et))
    (hm : ev e M = .map (some b)) (hi : ev e I = fk k) (hx : ev e X = fv v) (hL : L[i]? = some (mapC fk fv b xs)) {dst : Option Nat} :
    Turns P cx e ⟨dst, o, ty, pos, af, g⟩ L i rds (fun _ : Unit => undef) (fun _ => mapC fk fv b (mSet xs k v)) := fun w L' hF hS _ hi' => by
  have hL' := (hi' i (.inr rfl)).trans hL
  obtain ⟨S, ⟨_, es, clock, hb, hst, hen⟩, _⟩ := hS.at hL'
  have hlt : b < w.heap.size := (Array.getElem?_eq_some_iff.1 hb).1
  have hstay : ∀ w, (Instr.keyThatStays (fk k) (fk k)).run P w = .ok (fk k) w := fun w => by simp [Instr.keyThatStays, K.bits]
  obtain ⟨es', clock', hrun, hst', hen'⟩ : ∃ es' clock', (execOp (ev e) ⟨dst, o, ty, pos, af, g⟩).run P w = .ok .skip { w with heap := w.heap.setIfInBounds b (.map es' clock') } ∧ Stamped es' clock' ∧ Ents fk fv es'.toList (mSet xs k v) := by
    rcases find_mapG K hen hst.2.2 k with ⟨h1, h2, _, h4⟩ | ⟨j, e0, v0, h1, h2, h3, _, h5, _, h7⟩
    · refine ⟨_, _, ?_, Go.MapKept.stamped_push hst h2, ents_push (v := v) hen h4⟩
      rcases ho with rfl | rfl <;> simp [execOp, Instr.mapUpdate, hm, hi, hx, run_underlying ht, Go.MapKept.run_getObj_map hb, K.chk, h1, Go.MapKept.run_setObj_map _ hb, Result.andThen]
    · have h2' : es[j]? = some e0 := by simpa using h2
      refine ⟨es.modify j fun e => { e with key := fk k, val := fv v }, clock, ?_, Go.MapKept.stamped_modify hst j _ (fun _ _ => rfl) (fun x _ hx => by rw [h2'] at hx; cases hx; exact h3.symm), ents_modify (v := v) hen (nodup_ofG K hen hst.2.2) h5 h7⟩
      rcases ho with rfl | rfl <;> simp [execOp, Instr.mapUpdate, hm, hi, hx, run_underlying ht, Go.MapKept.run_getObj_map hb, K.chk, h1, h2', h3, hstay, Go.MapKept.run_setObj_map _ hb, Result.andThen]
  unfold RunsTo
  rw [hrun]
  have hS' := hS.turnOf (w' := { w with heap := w.heap.setIfInBounds b (.map es' clock') }) hF hL' (C := mapC fk fv b (mSet xs k v)) fun S1 hp1 =>
    ⟨rfl, rfl, rfl, by simp, fun x _ hx => by rw [Array.getElem?_setIfInBounds_ne (fun h => hx ((hp1.1 x).2 h.symm))], S1, ⟨hp1.1, es', clock', by simp [hlt], hst', hen'⟩, fun x hx => ⟨by rw [(hp1.1 x).1 hx]; simpa using hlt, .inl hx⟩⟩
  exact ⟨(), rfl, hS'.1, hS'.2⟩
end rules
end Go.Lx

namespace Go.Lx
open Go Go.Vc Go.Md

def exC {σ : Type} (C : σ → Chunk) : Chunk where
  P S w := ∃ x, (C x).P S w
  loc S w w' h := fun ⟨x, hx⟩ => ⟨x, (C x).loc S w w' h hx⟩
section
variable {P : Program} {cx : Cx} {e : Env} {L : List Chunk} {ops : Array Oper} {F : Env → List Chunk → Prop} {rest : List Oper} {ss : List Kd}
theorem sat_ex {σ : Type} {w : World} {i : Nat} {C : σ → Chunk} (hL : L[i]? = some (exC C)) (hS : Sat cx w L) : ∃ x, Sat cx w (L.set i (C x)) := by
  obtain ⟨fp, h1, h2, h3⟩ := hS.out
  obtain ⟨x, hx⟩ := h1 i _ hL
  have hil : i < L.length := by
    rcases Nat.lt_or_ge i L.length with h | h
    · exact h
    · simp [List.getElem?_eq_none h] at hL
  refine ⟨x, fp, fun j c hc => ?_, fun j b hb => ?_, h3⟩
  · by_cases hji : j = i
    · subst hji
      rw [List.getElem?_set_self hil] at hc
      cases hc; exact hx
    · rw [List.getElem?_set_ne (fun h => hji h.symm)] at hc
      exact h1 j c hc
  · have := h2 j b hb
    exact ⟨by simpa using this.1, this.2⟩
theorem c_ex {σ : Type} {K : Env → World → Prop} (i : Nat) {C : σ → Chunk} (hL : L[i]? = some (exC C)) (k : ∀ x, At cx K e (L.set i (C x))) : At cx K e L :=
  ⟨fun w hF hS => by
    obtain ⟨x, hx⟩ := sat_ex hL hS
    exact (k x).out w hF hx⟩
end
end Go.Lx

namespace Go.Lx
open Go Go.Vc Go.Md

section rules
variable {P : Program} {n : Nat} {cx : Cx} {e : Env} {L : List Chunk} {ops : Array Oper} {rest : List Oper} {ty : TypeId} {pos : String} {af : Array Edge} {g : Option (Nat × Bool)}
end rules

end Go.Lx

namespace Go.Lx
open Go Go.Vc Go.Md Go.Shelf Go.Sort Go.Proofs

section ops
variable {P : Program} {e : Env} {d : Option Nat} {ty : TypeId} {pos : String} {af : Array Edge} {g : Option (Nat × Bool)}
end ops
end Go.Lx

namespace Go.Lx
open Go Go.Vc Go.Md

structure RC (P : Program) (n : Nat) (c : Code) (Q : Post) (m : Nat) (e : Env) (w : World) : Prop where
  out : ∀ a, Sim n a e → Code.rounds P c (lift n Q) m a w

section rules
variable {P : Program} {n : Nat} {Q : Post} {cx : Cx} {K : Env → World → Prop} {e : Env} {L : List Chunk}
end rules
end Go.Lx

namespace Go.Lx
open Go Go.Vc Go.Md Go.Shelf Go.Sort Go.Proofs
variable {P : Program} {cx : Cx} {L : List Chunk} {e : Env}
section
open Go.Sort Go.Shelf
end
end Go.Lx

namespace Go.Lx
open Go Go.Vc Go.Md
section
variable {α : Type} {G : Heap → (Nat → Value) → α → Prop} {h : Heap} {sz : Nat} {css : List (List Value)} {xs ys : List α} {i : Int} {x' : α} {vs : List Value}
end
end Go.Lx

namespace Go.Lx
open Go Go.Vc Go.Md Go.Shelf Go.Sort Go.Proofs

section rules
variable {P : Program} {n : Nat} {cx : Cx} {Q : Post} {e : Env} {L : List Chunk} {ops : Array Oper} {rest : List Oper} {ty : TypeId} {pos : String} {af : Array Edge} {g : Option (Nat × Bool)}
end rules

section
end

section
open Go.Vc
variable {P : Program} {n : Nat} {cx : Cx} {e : Env} {L : List Chunk} {d : Nat} {ty : TypeId} {pos : String} {af : Array Edge} {g : Option (Nat × Bool)}

end

section
variable {P : Program} {e : Env} {d : Option Nat} {ty : TypeId} {pos : String} {af : Array Edge} {g : Option (Nat × Bool)}
theorem Row.pre {w : World} {a : Option Addr} {sz : Nat} {xs ys : List (List Value)} (h : Row w a sz (xs ++ ys)) : Row w a sz xs := by
  rcases h with h | ⟨b, off, ha, h⟩
  · exact .inl (List.append_eq_nil_iff.1 h).1
  · refine .inr ⟨b, off, ha, fun i x hx => h i x ?_⟩
    rw [List.getElem?_append_left (List.getElem?_eq_some_iff.1 hx).1]; exact hx
end

section
open Go.Vc
variable {P : Program} {cx : Cx} {e : Env} {L : List Chunk} {d : Option Nat} {ty : TypeId} {pos : String} {af : Array Edge} {g : Option (Nat × Bool)}
end
end Go.Lx

namespace Go.Lx
open Go Go.Md Go.Vc Go.Shelf Go.Sort Go.Proofs

theorem sj {α : Type} {a b : α} (h : some a = some b) : a = b := Option.some.inj h
section
variable {P : Program} {n : Nat} {cx : Cx} {Q : Post} {e : Env} {L : List Chunk} {ops : Array Oper} {rest : List Oper} {d : Nat} {ty : TypeId} {pos : String} {af : Array Edge} {g : Option (Nat × Bool)}
theorem lv {o : Op} {v : Value} (hr : ∀ w, (execOp (ev e) ⟨some d, o, ty, pos, af, g⟩).run P w = .ok (.value v) w) (k : At cx (WL P n ops Q rest) (upd e d v) L)
    (hw : want ops ⟨some d, o, ty, pos, af, g⟩ e = true := by exact rfl) (hn : Nat.blt d n = true := by exact rfl) : At cx (WL P n ops Q (⟨some d, o, ty, pos, af, g⟩ :: rest)) e L := l_val hw rfl hn hr k
theorem pT {c A B : Operand} (v : Value) (k : At cx (WL P n ops Q rest) (upd e d v) L) (hw : want ops ⟨some d, .pick c A B, ty, pos, af, g⟩ e = true := by exact rfl) (hn : Nat.blt d n = true := by exact rfl)
    (hc : ev e c = .bool true := by exact rfl) (hx : ev e A = v := by exact rfl) : At cx (WL P n ops Q (⟨some d, .pick c A B, ty, pos, af, g⟩ :: rest)) e L := l_val hw rfl hn (r_pickT hc hx) k
theorem pF {c A B : Operand} (v : Value) (k : At cx (WL P n ops Q rest) (upd e d v) L) (hw : want ops ⟨some d, .pick c A B, ty, pos, af, g⟩ e = true := by exact rfl) (hn : Nat.blt d n = true := by exact rfl)
    (hc : ev e c = .bool false := by exact rfl) (hx : ev e B = v := by exact rfl) : At cx (WL P n ops Q (⟨some d, .pick c A B, ty, pos, af, g⟩ :: rest)) e L := l_val hw rfl hn (r_pickF hc hx) k
theorem lf {T fld b o fo ft fsz bo : Nat} {nm tg pk : String} {em : Bool} {X : Operand} {fs : Array Field} (hu : ∀ w, (underlying T).run P w = .ok (.struct fs) w)
    (hf : fs[fld]? = some ⟨nm, ft, fo, em, tg, pk, bo⟩) (hs : ∀ w, (sizeOf ft).run P w = .ok fsz w) (hp : ev e X = .pointer (some ⟨b, o, none⟩))
    (k : At cx (WL P n ops Q rest) (upd e d (.pointer (some ⟨b, o + fo, none⟩))) L) (hsz : Nat.blt 0 fsz = true := by exact rfl) (hw : want ops ⟨some d, .fieldAddr T X fld, ty, pos, af, g⟩ e = true := by exact rfl) (hn : Nat.blt d n = true := by exact rfl) :
    At cx (WL P n ops Q (⟨some d, .fieldAddr T X fld, ty, pos, af, g⟩ :: rest)) e L := l_val hw rfl hn (r_field hu hf hs hsz hp) k
theorem ll {T T0 b o : Nat} {A : Operand} {cs : List Value} (i : Nat) (v : Value) (hA : ∀ w, (isAgg T).run P w = .ok false w) (k : At cx (WL P n ops Q rest) (upd e d v) L)
    (hw : want ops ⟨some d, .load T A, ty, pos, af, g⟩ e = true := by exact rfl) (hn : Nat.blt d n = true := by exact rfl) (hp : ev e A = .pointer (some ⟨b, o, none⟩) := by exact rfl) (hL : L[i]? = some (cellsC b cs T0) := by exact rfl) (hv : rg cs o = some v := by exact rfl) :
    At cx (WL P n ops Q (⟨some d, .load T A, ty, pos, af, g⟩ :: rest)) e L := l_load1 hA hw hn hp hL hv k
theorem st {i : Nat} {T T0 b o sz : Nat} {A X : Operand} {x : Value} {cs : List Value} (vs cs' : List Value) (hs : ∀ w, (sizeOf T).run P w = .ok sz w)
    (hp : ev e A = .pointer (some ⟨b, o, none⟩)) (hL : L[i]? = some (cellsC b cs T0)) (k : At cx (WL P n ops Q rest) e (L.set i (cellsC b cs' T0)))
    (hw : want ops ⟨none, .store T A X, ty, pos, af, g⟩ e = true := by exact rfl) (hx : ev e X = x := by exact rfl) (hc : x.cells.toList = vs := by exact rfl) (hsz : vs.length = sz := by exact rfl) (hpos : Nat.blt 0 sz = true := by exact rfl)
    (hone : vs.all Value.oneCell' = true := by exact rfl) (hv : wr cs o vs = some cs' := by exact rfl) :
    At cx (WL P n ops Q (⟨none, .store T A X, ty, pos, af, g⟩ :: rest)) e L := l_store hs hw hp hx hc hsz hpos hone hL hv k
theorem bo {K : Env → World → Prop} (i j : Nat) {C D : Chunk} (hi : L[i]? = some C) (hj : L[j]? = some D) (k : At cx K e ((L.set i (bothC C D)).set j empC)) (hne : i ≠ j := by decide) : At cx K e L := c_both i j hi hj hne k
theorem ub {K : Env → World → Prop} (i j : Nat) {C D : Chunk} (hL : L[i]? = some (bothC C D)) (hj : L[j]? = some empC) (k : At cx K e ((L.set i C).set j D)) (hne : i ≠ j := by decide) : At cx K e L := c_splitAt i j hL hj hne k
theorem cl {σ τ : Type} {sv : σ → τ → List (Nat × Value)} {hp : σ → τ → List Chunk} {I : σ → τ → Nat → Prop} {m : Nat} (s : σ) (t : τ) (k : Nat) (sel : List Nat) (hI : I s t k)
    (hst : Agree e (sv s t) := by (repeat (first | exact trivial | refine ⟨rfl, ?_⟩))) (hnd : sel.Nodup := by decide) (hL : sel.map (fun i => L[i]?) = (hp s t).map some := by kernel_rfl) (hm : k < m := by exact Nat.lt_succ_self _) :
    At cx (RoundA cx sv hp I m) e L := c_close s t k sel hst hnd hL hI hm
theorem ci {α : Type} {x y r : Option α} {c : Operand} {p q : Code} (b : Bool) (hc : ev e c = .bool b) (ht : b = true → x = r → At cx (WC P n p Q) e L) (hf : b = false → y = r → At cx (WC P n q Q) e L) (H : cnd b x y = r) :
    At cx (WC P n (.cond c p q) Q) e L := c_if hc (fun h => ht h (cnd_t h H)) (fun h => hf h (cnd_f h H))
theorem sp {α : Type} {x y r : Option α} {K : Env → World → Prop} {b : Bool} (ht : b = true → x = r → At cx K (upd e d (.bool true)) L) (hf : b = false → y = r → At cx K (upd e d (.bool false)) L) (H : cnd b x y = r) :
    At cx K (upd e d (.bool b)) L := split (fun h => ht h (cnd_t h H)) (fun h => hf h (cnd_f h H))
end
section
variable {P : Program} {cx : Cx} {e : Env} {L : List Chunk} {ops : Array Oper} {F : Env → List Chunk → Prop} {rest : List Oper} {ss : List Kd} {d : Nat} {ty : TypeId} {pos : String} {af : Array Edge} {g : Option (Nat × Bool)}
theorem dv {o : Op} {v : Value} (hr : ∀ w, (execOp (ev e) ⟨some d, o, ty, pos, af, g⟩).run P w = .ok (.value v) w) (k : Sq P cx ops F rest ss (upd e d v) L) (hw : want ops ⟨some d, o, ty, pos, af, g⟩ e = true := by exact rfl) :
    Sq P cx ops F (⟨some d, o, ty, pos, af, g⟩ :: rest) (.p :: ss) e L := d_val hw rfl hr k
theorem dl {i : Nat} {T T0 b o : Nat} {A : Operand} {cs : List Value} (v : Value) (hA : ∀ w, (isAgg T).run P w = .ok false w) (k : Sq P cx ops F rest ss (upd e d v) L)
    (hw : want ops ⟨some d, .load T A, ty, pos, af, g⟩ e = true := by exact rfl) (hp : ev e A = .pointer (some ⟨b, o, none⟩) := by exact rfl) (hL : L[i]? = some (cellsC b cs T0) := by exact rfl) (hv : rg cs o = some v := by exact rfl) :
    Sq P cx ops F (⟨some d, .load T A, ty, pos, af, g⟩ :: rest) (.d [i] v :: ss) e L := d_load1 hA hw hp hL hv k
end
section
variable {P : Program} {cx : Cx} {e : Env} {L : List Chunk}
theorem r1 {fn : Func} {t : Tmp} {v : Value} {w0 : World} (V : Value) (hr : fn.results = #[.tmp t] := by exact rfl) (ht : e t = V := by exact rfl) (h : V = v := by exact rfl) :
    At ⟨w0, fun _ => False⟩ (BodyQ P fn (fun v' w' => v' = v ∧ Grow w0 w') .ret) e L := ret1 hr ht (fin h)
theorem results_four {fn : Func} {t u s q : Tmp} (h : fn.results = #[.tmp t, .tmp u, .tmp s, .tmp q]) (tmps : Array Value) (w : World) : (results fn tmps).run P w = .ok (.tuple #[tmps.getD t undef, tmps.getD u undef, tmps.getD s undef, tmps.getD q undef]) w := by
  simp [results, h]
theorem ret4 {fn : Func} {R : Value → World → Prop} {t u s q : Tmp} {v1 v2 v3 v4 : Value} (hr : fn.results = #[.tmp t, .tmp u, .tmp s, .tmp q]) (h1 : e t = v1) (h2 : e u = v2) (h3 : e s = v3) (h4 : e q = v4) (k : ∀ w, Fr cx w → Sat cx w L → R (.tuple #[v1, v2, v3, v4]) w) : At cx (BodyQ P fn R .ret) e L :=
  ⟨fun w hF hS tmps hs => ⟨.tuple #[v1, v2, v3, v4], by rw [results_four hr, hs, hs, hs, hs, h1, h2, h3, h4], k w hF hS⟩⟩
end
end Go.Lx

namespace Go.Lx
open Go Go.Vc Go.Md

section
variable {P : Program} {n : Nat} {cx : Cx} {Q : Post} {e : Env} {L : List Chunk} {ops : Array Oper} {rest : List Oper} {d : Nat} {ty : TypeId} {pos : String} {af : Array Edge} {g : Option (Nat × Bool)}
end

section
variable {P : Program} {cx : Cx} {e : Env} {L : List Chunk} {d : Nat} {ty : TypeId} {pos : String} {af : Array Edge} {g : Option (Nat × Bool)}
end
section
variable {P : Program} {cx : Cx} {e : Env} {L : List Chunk} {ops : Array Oper} {F : Env → List Chunk → Prop} {rest : List Oper} {ss : List Kd} {d : Nat} {ty : TypeId} {pos : String} {af : Array Edge} {g : Option (Nat × Bool)}
end
section
variable {P : Program} {cx : Cx} {e : Env} {L : List Chunk} {d : Nat} {ty : TypeId} {pos : String} {af : Array Edge} {g : Option (Nat × Bool)}
theorem turns_appGm {α : Type} {f : α → List Value} {ys ls zs : List α} {i : Nat} {S X : Operand} {t E : TypeId} {I : TypeInfo} {z : Value} {sz by_ : Nat} {p : Option Addr × Nat} {rds : List Nat} {V : Value} {a : Option Addr} {c m q : Nat} (hn : m = ys.length)
    (ht : P.underlying t = some (.slice E)) (hi : P.info? E = some I) (hz : I.zero = some z) (hsize : I.size = sz) (hby : I.bytes = by_) (hzs : z.cells.size = sz) (hsz : Nat.blt 0 sz = true)
    (hL : L[i]? = some (rowV E sz (.slice p.1 m p.2) m (ys.map f))) (hs : ev e S = .slice p.1 m p.2) (hx : ev e X = V) (hV : V = .slice a q c) (hq : q = ls.length)
    (hnews : ∀ w L', Fr cx w → Sat cx w L' → (∀ j, j ∈ rds → L'[j]? = L[j]?) → Row w a sz (ls.map f)) (hf : ∀ x ∈ ls, (f x).length = sz) (h1 : ∀ x ∈ ls, (f x).all Value.oneCell' = true) (hg : gApp by_ ys ls = some zs) :
    Turns P cx e ⟨some d, .call ⟨.builtin .append, #[S, X], #[t, t]⟩, ty, pos, af, g⟩ L i rds (fun p' : Option Addr × Nat => .slice p'.1 zs.length p'.2) (fun p' => rowV E sz (.slice p'.1 zs.length p'.2) zs.length (zs.map f)) := by
  subst hn hq
  obtain ⟨rfl, hb1, hb2⟩ := gApp_some hg
  rw [List.length_append]
  cases ha : a with
  | some ad =>
    subst ha
    exact turns_append (ad := ad) ht hi hz hsize hby hzs hsz hL hs (hx.trans hV) (by rw [List.length_map]) (fun x hx => by
      obtain ⟨y, hy, rfl⟩ := List.mem_map.1 hx; exact hf y hy) hnews (fun x hx u hu => by
      obtain ⟨y, hy, rfl⟩ := List.mem_map.1 hx; exact List.all_eq_true.1 (h1 y hy) u hu) (by rw [List.map_append]) rfl (by omega) hb2
  | none =>
    subst ha
    intro w L' hF hS hl hi'
    have hr := hnews w L' hF hS fun j hj => hi' j (.inl hj)
    have hls : ls = [] := by
      rcases hr with h | ⟨b, off, h, _⟩
      · simpa using h
      · cases h
    subst hls
    have hL' := (hi' i (.inr rfl)).trans hL
    obtain ⟨S0, ⟨⟨ho, _⟩, _⟩, _⟩ := hS.at hL'
    have he : (execOp (ev e) ⟨some d, .call ⟨.builtin .append, #[S, X], #[t, t]⟩, ty, pos, af, g⟩).run P w = .ok (.value (.slice p.1 ys.length p.2)) w := by
      simp only [execOp, resolve, invoke, builtin, Sem.run_bind, Sem.run_pure, Result.andThen_ok, List.map_toArray, List.map_cons, List.map_nil, hs, hx, hV, List.length_nil, run_append_none_cap t ty E I sz ht hi _ _ _ c ho]
    unfold RunsTo
    rw [he]
    refine ⟨p, by simp, hF, ?_⟩
    have : L'.set i (rowV E sz (.slice p.1 (ys.length + 0) p.2) (ys.length + 0) ((ys ++ []).map f)) = L' := by
      rw [List.append_nil, Nat.add_zero]
      refine List.ext_getElem? fun j => ?_
      rw [List.getElem?_set]
      split
      · rename_i h; subst h
        split
        · exact hL'.symm
        · rename_i h; rw [List.getElem?_eq_none (by omega)]
      · rfl
    show Sat cx w (L'.set i (rowV E sz (.slice p.1 (ys.length + ([] : List α).length) p.2) (ys.length + ([] : List α).length) ((ys ++ []).map f)))
    rw [List.length_nil, this]
    exact hS
end
section
variable {α : Type} {G : Heap → (Nat → Value) → α → Prop} {h : Heap} {sz : Nat} {css : List (List Value)} {xs : List α}
end
end Go.Lx

namespace Go.Lx
open Go Go.Vc Go.Md

section
variable {P : Program} {cx : Cx} {e : Env} {L : List Chunk} {ops : Array Oper} {F : Env → List Chunk → Prop} {rest : List Oper} {ss : List Kd}
variable {d : Nat} {ty : TypeId} {pos : String} {af : Array Edge} {g : Option (Nat × Bool)}
end
section
variable {α : Type} {G : Heap → (Nat → Value) → α → Prop} {h : Heap} {sz : Nat} {v : Value} {xs : List α}
end
end Go.Lx

namespace Go.Lx
open Go Go.Vc Go.Md

section
variable {P : Program} {cx : Cx} {e : Env} {L : List Chunk}
end
end Go.Lx

namespace Go.Lx
open Go Go.Vc Go.Md

def pooledC (base : Heap) (Φ : Heap → Prop) : Chunk where
  P S w := ∃ hp, Φ hp ∧ (poolC base hp).P S w
  loc S w w' h := fun ⟨hp, h1, h2⟩ => ⟨hp, h1, Chunk.loc _ _ _ _ h h2⟩
noncomputable def restr (w : World) (S : Nat → Prop) : Heap := open Classical in fun b => if S b then w.heap[b]? else none
theorem restr_some {w : World} {S : Nat → Prop} {b : Nat} {o : Obj} : restr w S b = some o ↔ S b ∧ w.heap[b]? = some o := by
  classical
  unfold restr
  split
  · rename_i h; exact ⟨fun k => ⟨h, k⟩, fun k => k.2⟩
  · rename_i h; exact ⟨fun k => (by cases k), fun k => absurd k.1 h⟩
theorem restr_mono {w : World} {S T : Nat → Prop} (h : ∀ b, S b → T b) : ∀ b o, restr w S b = some o → restr w T b = some o := fun b o k => by
  rw [restr_some] at k ⊢
  exact ⟨h b k.1, k.2⟩
theorem restr_pool (w : World) (S : Nat → Prop) : (poolC noH (restr w S)).P S w := ⟨noH_le, fun b o h => .inr (restr_some.1 h)⟩

def RowP (h : Heap) (E sz : Nat) (v : Value) (css : List (List Value)) : Prop :=
  (∀ x ∈ css, x.length = sz) ∧ ((v = .slice none 0 0 ∧ css = []) ∨
    ∃ g cap cur, v = .slice (some ⟨g, 0, none⟩) css.length cap ∧ h g = some (.cells cur E (0, 0)) ∧ css.length ≤ cap ∧ cap ≤ maxLen ∧ cur.size = cap * sz ∧ cur.toList.take (css.length * sz) = css.flatten)
theorem RowP.mono {h h' : Heap} {E sz : Nat} {v : Value} {css : List (List Value)} (r : RowP h E sz v css) (k : ∀ b, v.ownBlock = some b → ∀ o, h b = some o → h' b = some o) : RowP h' E sz v css := by
  refine ⟨r.1, r.2.imp id ?_⟩
  rintro ⟨g, cap, cur, rfl, hb, rest⟩
  exact ⟨g, cap, cur, rfl, k g rfl _ hb, rest⟩
theorem RowP.of {w : World} {S : Nat → Prop} {E sz n : Nat} {v : Value} {css : List (List Value)} (h : (rowV E sz v n css).P S w) : RowP (restr w S) E sz v css ∧ n = css.length ∧ ∀ b, v.ownBlock = some b → S b := by
  obtain ⟨⟨⟨h1, h2⟩, h3, h5⟩, h4⟩ := h
  subst h3
  refine ⟨⟨h5, ?_⟩, rfl, h4⟩
  rcases h2 with ⟨rfl, h0⟩ | ⟨g, cap, cur, rfl, _, hh, q1, q2, q3, q4⟩
  · exact .inl ⟨rfl, List.length_eq_zero_iff.1 h0⟩
  · exact .inr ⟨g, cap, cur, rfl, restr_some.2 ⟨h4 g rfl, hh⟩, q1, q2, q3, q4⟩
theorem RowP.row {h : Heap} {E sz : Nat} {v : Value} {css : List (List Value)} (r : RowP h E sz v css) {w : World} {S : Nat → Prop} (hw : ∀ b, v.ownBlock = some b → S b ∧ ∀ o, h b = some o → w.heap[b]? = some o) : (rowV E sz v css.length css).P S w := by
  have hfl : css.flatten.length = css.length * sz := by
    have := r.1
    clear r hw
    induction css with
    | nil => simp
    | cons x l ih =>
      rw [List.flatten_cons, List.length_append, ih (fun y hy => this y (.tail _ hy)), this x (.head _), List.length_cons, Nat.add_mul]; omega
  refine ⟨⟨⟨hfl, ?_⟩, rfl, r.1⟩, fun b hb => (hw b hb).1⟩
  rcases r.2 with ⟨rfl, h0⟩ | ⟨g, cap, cur, rfl, hb, q1, q2, q3, q4⟩
  · exact .inl ⟨rfl, by rw [h0]; rfl⟩
  · exact .inr ⟨g, cap, cur, rfl, Nat.zero_le _, (hw g rfl).2 _ hb, q1, q2, q3, q4⟩
theorem RowP.frs {h : Heap} {E sz : Nat} {v : Value} {css : List (List Value)} (r : RowP h E sz v css) : FrS h sz v css := by
  rcases r.2 with ⟨rfl, rfl⟩ | ⟨g, cap, cur, rfl, hb, q1, q2, q3, q4⟩
  · exact ⟨none, 0, rfl, Nat.le_refl _, by decide, .inl rfl⟩
  · refine ⟨some ⟨g, 0, none⟩, cap, rfl, q1, by simpa [maxLen] using q2, .inr ⟨g, 0, cur, E, (0, 0), rfl, hb, fun i x hx => ⟨r.1 x (List.mem_of_getElem? hx), fun j v hv => ?_⟩⟩⟩
    have hr := row_get css i x (List.all_eq_true.2 fun x hx => by simpa using r.1 x hx) hx j v hv
    rw [← q4, List.getElem?_take] at hr
    split at hr
    · rw [Array.getElem?_toList] at hr
      rw [← hr, Nat.zero_add]
    · cases hr

section
variable {P : Program} {cx : Cx} {e : Env} {L : List Chunk} {K : Env → World → Prop} {ops : Array Oper} {rest : List Oper} {d : Nat} {ty : TypeId} {pos : String} {af : Array Edge} {g : Option (Nat × Bool)}
end

def ownC (Φ : Heap → List Nat → Prop) : Chunk := pooledC noH fun hp => ∃ bs, Φ hp bs ∧ bs.Nodup ∧ ∀ b ∈ bs, ∃ o, hp b = some o
theorem own_both {Φ Ψ Χ : Heap → List Nat → Prop} (m1 : ∀ h h' bs, (∀ b o, h b = some o → h' b = some o) → Φ h bs → Φ h' bs) (m2 : ∀ h h' bs, (∀ b o, h b = some o → h' b = some o) → Ψ h bs → Ψ h' bs)
    (k : ∀ h b1 b2, Φ h b1 → Ψ h b2 → Χ h (b1 ++ b2)) : Imp (bothC (ownC Φ) (ownC Ψ)) (ownC Χ) := ⟨fun S w => by
  rintro ⟨S1, S2, ⟨h1, ⟨b1, f1, n1, d1⟩, p1⟩, ⟨h2, ⟨b2, f2, n2, d2⟩, p2⟩, s1, s2, sd⟩
  have q1 : ∀ b o, h1 b = some o → S1 b ∧ w.heap[b]? = some o := fun b o h => (p1.2 b o h).elim (fun h => by cases h) id
  have q2 : ∀ b o, h2 b = some o → S2 b ∧ w.heap[b]? = some o := fun b o h => (p2.2 b o h).elim (fun h => by cases h) id
  have l1 : ∀ b o, h1 b = some o → restr w S b = some o := fun b o h => restr_some.2 ⟨s1 b (q1 b o h).1, (q1 b o h).2⟩
  have l2 : ∀ b o, h2 b = some o → restr w S b = some o := fun b o h => restr_some.2 ⟨s2 b (q2 b o h).1, (q2 b o h).2⟩
  refine ⟨restr w S, ⟨b1 ++ b2, k _ _ _ (m1 _ _ _ l1 f1) (m2 _ _ _ l2 f2), List.nodup_append.2 ⟨n1, n2, fun a ha b hb e => ?_⟩, fun b hb => ?_⟩, restr_pool w S⟩
  · subst e
    obtain ⟨o1, g1⟩ := d1 a ha
    obtain ⟨o2, g2⟩ := d2 a hb
    exact sd a (q1 a o1 g1).1 (q2 a o2 g2).1
  · rcases List.mem_append.1 hb with h | h
    · obtain ⟨o, g⟩ := d1 b h; exact ⟨o, l1 b o g⟩
    · obtain ⟨o, g⟩ := d2 b h; exact ⟨o, l2 b o g⟩⟩
theorem imp_bothM {C C' D D' : Chunk} (h1 : Imp C C') (h2 : Imp D D') : Imp (bothC C D) (bothC C' D') :=
  ⟨fun _ _ ⟨S1, S2, a, b, c⟩ => ⟨S1, S2, h1.out _ _ a, h2.out _ _ b, c⟩⟩
theorem imp_trans {C D F : Chunk} (h1 : Imp C D) (h2 : Imp D F) : Imp C F := ⟨fun _ _ k => h2.out _ _ (h1.out _ _ k)⟩
theorem own_nodup {v : Value} : v.ownBlock.toList.Nodup := by cases v.ownBlock <;> simp
theorem imp_rowOwn {E sz n : Nat} {v : Value} {css : List (List Value)} : Imp (rowV E sz v n css) (ownC fun h bs => RowP h E sz v css ∧ n = css.length ∧ bs = v.ownBlock.toList) := ⟨fun S w k => by
  obtain ⟨r, hn, hb⟩ := RowP.of k
  refine ⟨restr w S, ⟨_, ⟨r, hn, rfl⟩, own_nodup, fun b h => ?_⟩, restr_pool w S⟩
  rcases r.2 with ⟨rfl, _⟩ | ⟨g, cap, cur, rfl, hg, _⟩
  · cases h
  · simp [Value.ownBlock] at h; subst h; exact ⟨_, hg⟩⟩
def roB (v : Value) (n : Nat) : List Nat := if n = 0 then [] else v.ownBlock.toList
theorem imp_emptyOwn {Φ : Heap → List Nat → Prop} (h : Φ noH []) : Imp empC (ownC Φ) := ⟨fun S w k => ⟨noH, ⟨[], h, List.nodup_nil, fun b hb => by cases hb⟩, noH_le, fun b o hb => by cases hb⟩⟩
theorem FrS.agree {h h' : Heap} {sz : Nat} {v : Value} {xs : List (List Value)} (f : FrS h sz v xs) (k : ∀ b ∈ roB v xs.length, ∀ o, h b = some o → h' b = some o) : FrS h' sz v xs := by
  obtain ⟨a, c, rfl, h1, h2, r⟩ := f.out
  refine ⟨a, c, rfl, h1, h2, ?_⟩
  rcases r with r | ⟨b, off, cs, T, m, rfl, hb, r⟩
  · exact .inl r
  · by_cases h0 : xs.length = 0
    · exact .inl (List.length_eq_zero_iff.1 h0)
    · exact .inr ⟨b, off, cs, T, m, rfl, k b (by unfold roB; rw [if_neg h0]; simp [Value.ownBlock]) _ hb, r⟩
end Go.Lx
namespace Go.Lx
open Go Go.Vc Go.Md
end Go.Lx
namespace Go.Lx
end Go.Lx
namespace Go.Lx
open Go Go.Vc Go.Md
def KidsG {α : Type} (T : Heap → List Value → α → List Nat → Prop) (h : Heap) : List (List Value) → List α → List Nat → Prop
  | [], [], bs => bs = []
  | c :: css, x :: xs, bs => ∃ b1 b2, T h c x b1 ∧ KidsG T h css xs b2 ∧ bs = b1 ++ b2
  | _, _, _ => False
section
variable {α : Type} {T : Heap → List Value → α → List Nat → Prop} {h h' : Heap}
theorem KidsG.len : ∀ {css : List (List Value)} {xs : List α} {bs : List Nat}, KidsG T h css xs bs → css.length = xs.length
  | [], [], _, _ => rfl
  | _ :: _, _ :: _, _, ⟨_, _, _, k, _⟩ => by rw [List.length_cons, List.length_cons, k.len]
theorem KidsG.snoc {c : List Value} {x : α} {b : List Nat} (e : T h c x b) : ∀ {css : List (List Value)} {xs : List α} {bs : List Nat}, KidsG T h css xs bs → KidsG T h (css ++ [c]) (xs ++ [x]) (bs ++ b)
  | [], [], _, k => ⟨b, [], e, rfl, by rw [show _ = _ from k]; simp⟩
  | _ :: _, _ :: _, _, ⟨b1, b2, k1, k2, k3⟩ => ⟨b1, b2 ++ b, k1, k2.snoc e, by rw [k3, List.append_assoc]⟩
theorem KidsG.agree (hT : ∀ c x b, T h c x b → (∀ q ∈ b, ∀ o, h q = some o → h' q = some o) → T h' c x b) :
    ∀ {css : List (List Value)} {xs : List α} {bs : List Nat}, KidsG T h css xs bs → (∀ q ∈ bs, ∀ o, h q = some o → h' q = some o) → KidsG T h' css xs bs
  | [], [], _, k, _ => k
  | _ :: _, _ :: _, _, ⟨b1, b2, k1, k2, k3⟩, q => by
    subst k3
    exact ⟨b1, b2, hT _ _ _ k1 fun y hy => q y (List.mem_append_left _ hy), k2.agree hT fun y hy => q y (List.mem_append_right _ hy), rfl⟩
theorem KidsG.allC {G : Heap → (Nat → Value) → α → Prop} {sz : Nat} (hT : ∀ c x b, T h c x b → c.length = sz ∧ G h (fun j => c.getD j undef) x) : ∀ {css : List (List Value)} {xs : List α} {bs : List Nat}, KidsG T h css xs bs → AllC G h sz css xs
  | [], [], _, _ => AllC.nil
  | c :: css, x :: xs, _, ⟨b1, b2, k1, k2, _⟩ => by
    have hk := k2.allC hT
    refine ⟨by rw [List.length_cons, List.length_cons, hk.len], fun i c' x' hc hx => ?_⟩
    cases i with
    | zero => cases hc; cases hx; exact hT _ _ _ k1
    | succ i => exact hk.el i c' x' hc hx
theorem KidsG.map {T2 : Heap → List Value → α → List Nat → Prop} (hT : ∀ c x b, T h c x b → (∀ q ∈ b, ∀ o, h q = some o → h' q = some o) → T2 h' c x b) :
    ∀ {css : List (List Value)} {xs : List α} {bs : List Nat}, KidsG T h css xs bs → (∀ q ∈ bs, ∀ o, h q = some o → h' q = some o) → KidsG T2 h' css xs bs
  | [], [], _, k, _ => k
  | _ :: _, _ :: _, _, ⟨b1, b2, k1, k2, k3⟩, q => by
    subst k3
    exact ⟨b1, b2, hT _ _ _ k1 fun y hy => q y (List.mem_append_left _ hy), k2.map hT fun y hy => q y (List.mem_append_right _ hy), rfl⟩
theorem KidsG.at : ∀ {css : List (List Value)} {xs : List α} {bs : List Nat} (k : Nat) {c : List Value} {x : α}, KidsG T h css xs bs → css[k]? = some c → xs[k]? = some x → bs.Nodup →
    ∃ b, T h c x b ∧ (∀ q ∈ b, q ∈ bs) ∧ b.Nodup ∧ ∀ (T2 : Heap → List Value → α → List Nat → Prop) (h' : Heap) (c' : List Value) (x' : α), (∀ c x b, T h c x b → (∀ q ∈ b, ∀ o, h q = some o → h' q = some o) → T2 h' c x b) → (∀ q ∈ bs, q ∉ b → ∀ o, h q = some o → h' q = some o) → T2 h' c' x' b →
      KidsG T2 h' (css.set k c') (xs.set k x') bs
  | [], [], _, _, _, _, _, hc, _, _ => by cases hc
  | [], _ :: _, _, _, _, _, k, _, _, _ => k.elim
  | _ :: _, [], _, _, _, _, k, _, _, _ => k.elim
  | c0 :: css, x0 :: xs, bs, k, c, x, ⟨b1, b2, k1, k2, k3⟩, hc, hx, hn => by
    subst k3
    obtain ⟨n1, n2, n3⟩ := List.nodup_append.1 hn
    cases k with
    | zero =>
      cases hc; cases hx
      refine ⟨b1, k1, fun q hq => List.mem_append_left _ hq, n1, fun T2 h' c' x' hT ha t => ⟨b1, b2, t, k2.map (fun c x b t k => hT c x b t k) fun q hq => ha q (List.mem_append_right _ hq) fun hq1 => n3 q hq1 q hq rfl, rfl⟩⟩
    | succ k =>
      obtain ⟨b, t1, t2, t3, t4⟩ := KidsG.at k k2 hc hx n2
      refine ⟨b, t1, fun q hq => List.mem_append_right _ (t2 q hq), t3, fun T2 h' c' x' hT ha t => ?_⟩
      have g := t4 T2 h' c' x' hT (fun q hq hb => ha q (List.mem_append_right _ hq) hb) t
      exact ⟨b1, b2, hT _ _ _ k1 (fun q hq => ha q (List.mem_append_left _ hq) fun hb => n3 q hq q (t2 q hb) rfl), g, rfl⟩
end
end Go.Lx
namespace Go.Lx
open Go Go.Vc Go.Md
section
variable {P : Program} {cx : Cx} {e : Env} {L : List Chunk} {ops : Array Oper} {F : Env → List Chunk → Prop} {rest : List Oper} {ss : List Kd}
def _root_.Go.Vc.Kd.sp (a q i : Nat) (C : Value → Chunk) : Kd := .g [a, q] [i] [i] (fun _ _ v => v = undef) (fun vs _ _ => [C (vs.getD 1 undef)])
theorem d_storeP {o : Oper} {i a q : Nat} {C : Value → Chunk} (h : Turns P cx e o L i [] (fun _ : Unit => undef) (fun _ => C (e q))) (hw : want ops o e = true) (hd : o.dst = none) (k : Sq P cx ops F rest ss e (L.set i (C (e q)))) : Sq P cx ops F (o :: rest) (.sp a q i C :: ss) e L := by
  have hq : C (([a, q].map e).getD 1 undef) = C (e q) := rfl
  refine .take hw ⟨undef, rfl⟩ ⟨fun w L' hF hS hl hi => ?_⟩ fun v' hv' => ?_
  · refine (h w L' hF hS hl fun j hj => hi j (by simpa [Kd.sp, Kd.rds, Kd.wrs] using hj)).mono fun v w' ⟨x, hv, hF', hS'⟩ => ?_
    subst hv
    exact ⟨rfl, hF', hS'⟩
  · obtain rfl : v' = undef := hv'
    show Sq P cx ops F rest ss (putD e o.dst undef) (L.set i (C (e q)))
    rw [hd]
    exact k
end
end Go.Lx
namespace Go.Lx
open Go Go.Vc Go.Md
section
variable {cx : Cx} {K : Env → World → Prop} {e : Env} {L : List Chunk} {base hp hp1 : Heap}
end
end Go.Lx

namespace Go.Lx
open Go Go.Vc Go.Md

section plain
variable {P : Program}

def offK (n : Nat) (k : Nat × Nat) : Prop := k.2 ≤ k.1 ∨ n ≤ k.1

end plain

def rowK (w : World) (E sz : Nat) (v : Value) (n : Nat) (xs : List Value) : Prop :=
  xs.length = n * sz ∧ ((v = .slice none 0 0 ∧ n = 0) ∨ ∃ g cap cur k, v = .slice (some ⟨g, 0, none⟩) n cap ∧ w.heap[g]? = some (.cells cur E k) ∧ offK cur.size k ∧ n ≤ cap ∧ cap ≤ maxLen ∧ cur.size = cap * sz ∧ cur.toList.take (n * sz) = xs)
def wrC (w : World) (E sz : Nat) (v : Value) (n : Nat) (xs : List (List Value)) : Prop := rowK w E sz v n xs.flatten ∧ xs.length = n ∧ ∀ x ∈ xs, x.length = sz
theorem wrC.mk' {w : World} {E sz : Nat} {v : Value} {n : Nat} {xs : List (List Value)} (h : wrC w E sz v n xs) : v = .slice none 0 0 ∧ n = 0 ∧ xs = [] ∨ ∃ g cap cur k, v = .slice (some ⟨g, 0, none⟩) n cap ∧ w.heap[g]? = some (.cells cur E k) ∧ offK cur.size k ∧ n ≤ cap ∧ cap ≤ maxLen ∧ cur.size = cap * sz ∧ cur.toList.take (n * sz) = xs.flatten := by
  rcases h.1.2 with ⟨h1, h2⟩ | h1
  · refine .inl ⟨h1, h2, List.eq_nil_of_length_eq_zero (by rw [h.2.1]; exact h2)⟩
  · exact .inr h1
theorem wrC.frs {w : World} {E sz : Nat} {v : Value} {n : Nat} {xs : List (List Value)} (h : wrC w E sz v n xs) : FrS (fun b => w.heap[b]?) sz v xs := by
  rcases h.mk' with ⟨rfl, _, rfl⟩ | ⟨g, cap, cur, k, rfl, hh, _, hnc, hm, hcs, ht⟩
  · exact FrS.nil _ _
  obtain ⟨_, hn, hl⟩ := h
  subst hn
  refine ⟨some ⟨g, 0, none⟩, cap, rfl, hnc, by simpa [maxLen] using hm, .inr ⟨g, 0, cur, E, k, rfl, hh, fun i x hx => ⟨hl x (List.mem_of_getElem? hx), fun j v hv => ?_⟩⟩⟩
  have hi : i < xs.length := by
    rcases Nat.lt_or_ge i xs.length with h | h
    · exact h
    · rw [List.getElem?_eq_none h] at hx; cases hx
  have hj : j < sz := by
    have := hl x (List.mem_of_getElem? hx)
    rcases Nat.lt_or_ge j x.length with h | h
    · omega
    · rw [List.getElem?_eq_none h] at hv; cases hv
  have hr := row_get xs i x (List.all_eq_true.2 fun x hx => by simpa using hl x hx) hx j v hv
  rw [← ht, List.getElem?_take] at hr
  split at hr
  · rw [Nat.zero_add, ← Array.getElem?_toList]; exact hr
  · cases hr
theorem wrC.slice {w : World} {E sz : Nat} {v : Value} {n : Nat} {xs : List (List Value)} (h : wrC w E sz v n xs) : ∃ p : Option Addr × Nat, v = .slice p.1 n p.2 := by
  rcases h.mk' with ⟨rfl, rfl, _⟩ | ⟨g, cap, cur, k, rfl, _⟩
  · exact ⟨(none, 0), rfl⟩
  · exact ⟨(some ⟨g, 0, none⟩, cap), rfl⟩

section rules
variable {P : Program} {n : Nat} {cx : Cx} {e : Env} {L : List Chunk} {d : Nat} {ty : TypeId} {pos : String} {af : Array Edge} {g : Option (Nat × Bool)}

variable {ops : Array Oper} {F : Env → List Chunk → Prop} {rest : List Oper} {ss : List Kd}
end rules
end Go.Lx

namespace Go.Lx
open Go Go.Vc Go.Md
section
variable {P : Program} {ops : Array Oper} {Q : Exit → Act → World → Prop}
end
section
variable {P : Program} {cx : Cx} {e : Env} {L : List Chunk} {K : Env → World → Prop} {ops : Array Oper} {F : Env → List Chunk → Prop} {rest : List Oper} {ss : List Kd} {ty : TypeId} {pos : String} {af : Array Edge} {g : Option (Nat × Bool)}
end
end Go.Lx

namespace Go.Lx
open Go Go.Vc Go.Md
open Go.MapKept (IsKey Stamped)

section
variable {κ ν : Type} [DecidableEq κ] {d : TypeDesc} {fk : κ → Value} {fv : ν → Value}
theorem mDel_none {xs : List (κ × ν)} {k : κ} (h : mHas xs k = false) : mDel xs k = xs := by
  unfold mDel mHas at *
  rw [List.any_eq_false] at h
  exact List.filter_eq_self.2 fun p hp => by simpa using h p hp
theorem mDel_at : ∀ {xs : List (κ × ν)} {k : κ} {j : Nat} {v : ν}, (xs.map (·.1)).Nodup → xs[j]? = some (k, v) → mDel xs k = xs.eraseIdx j
  | [], _, j, _, _, h => by simp at h
  | p :: xs, k, 0, v, hn, h => by
    simp at h; subst h
    simp only [List.map_cons, List.nodup_cons] at hn
    unfold mDel
    rw [List.filter_cons_of_neg (by simp)]
    simp only [List.eraseIdx_cons_zero]
    exact List.filter_eq_self.2 fun y hy => by
      have : y.1 ≠ k := fun q => hn.1 (q ▸ List.mem_map.2 ⟨y, hy, rfl⟩)
      simpa using this
  | p :: xs, k, j + 1, v, hn, h => by
    simp only [List.getElem?_cons_succ] at h
    simp only [List.map_cons, List.nodup_cons] at hn
    have hne : p.1 ≠ k := fun q => hn.1 (q ▸ List.mem_map.2 ⟨(k, v), List.mem_of_getElem? h, rfl⟩)
    have ih := mDel_at hn.2 h
    unfold mDel at ih ⊢
    rw [List.filter_cons_of_pos (by simpa using hne), List.eraseIdx_cons_succ, ih]
end

section
variable {P : Program} {cx : Cx} {e : Env} {L : List Chunk} {ty : TypeId} {pos : String} {af : Array Edge} {g : Option (Nat × Bool)} {κ ν : Type} [DecidableEq κ] {fk : κ → Value} {fv : ν → Value}
theorem turns_mdel {dk : TypeDesc} {t kt et : TypeId} {M I : Operand} {b i : Nat} {xs : List (κ × ν)} {k : κ} {rds : List Nat} {tys : Array TypeId} (K : KeyF dk fk) (ht : P.underlying t = some (.map kt et)) (hk : P.underlying kt = some dk)
    (hm : ev e M = .map (some b)) (hi : ev e I = fk k) (hL : L[i]? = some (mapC fk fv b xs)) (hty : tys = #[t, kt]) {dst : Option Nat} :
    Turns P cx e ⟨dst, .call ⟨.builtin .delete, #[M, I], tys⟩, ty, pos, af, g⟩ L i rds (fun _ : Unit => .tuple #[]) (fun _ => mapC fk fv b (mDel xs k)) := fun w L' hF hS _ hi' => by
  subst hty
  have hL' := (hi' i (.inr rfl)).trans hL
  obtain ⟨S, ⟨_, es, clock, hb, hst, hen⟩, _⟩ := hS.at hL'
  have hlt : b < w.heap.size := (Array.getElem?_eq_some_iff.1 hb).1
  obtain ⟨es', hrun, hst', hen'⟩ : ∃ es', (execOp (ev e) ⟨dst, .call ⟨.builtin .delete, #[M, I], #[t, kt]⟩, ty, pos, af, g⟩).run P w = .ok (.value (.tuple #[])) { w with heap := w.heap.setIfInBounds b (.map es' clock) } ∧ Stamped es' clock ∧ Ents fk fv es'.toList (mDel xs k) := by
    rcases find_map K hen hst.2.2 k with ⟨h1, _, _, h4⟩ | ⟨j, e0, v0, h1, h2, _, _, h5, _, _⟩
    · refine ⟨es, ?_, hst, by rw [mDel_none h4]; exact hen⟩
      simp [execOp, resolve, invoke, builtin, Builtin.delete_, hm, hi, run_underlying ht, Go.MapKept.run_getObj_map hb, Go.MapKept.run_checkKey hk (K.isKey k), Go.MapKept.run_findKey hk h1, Go.MapKept.run_setObj_map _ hb, Result.andThen]
    · have hjl : j < es.toList.length := (List.getElem?_eq_some_iff.1 h2).1
      have hjs : j < es.size := by simpa using hjl
      have hsub : (es.eraseIdxIfInBounds j).toList = es.toList.eraseIdx j := by
        unfold Array.eraseIdxIfInBounds
        rw [dif_pos hjs]
        simp
      refine ⟨es.eraseIdxIfInBounds j, ?_, Go.MapKept.stamped_erase hst j, by rw [hsub, mDel_at (nodup_of K hen hst.2.2) h5]; exact hen.erase j⟩
      simp [execOp, resolve, invoke, builtin, Builtin.delete_, hm, hi, run_underlying ht, Go.MapKept.run_getObj_map hb, Go.MapKept.run_checkKey hk (K.isKey k), Go.MapKept.run_findKey hk h1, Go.MapKept.run_setObj_map _ hb, Result.andThen]
  unfold RunsTo
  rw [hrun]
  have hS' := hS.turnOf (w' := { w with heap := w.heap.setIfInBounds b (.map es' clock) }) hF hL' (C := mapC fk fv b (mDel xs k)) fun S1 hp1 =>
    ⟨rfl, rfl, rfl, by simp, fun x _ hx => by rw [Array.getElem?_setIfInBounds_ne (fun h => hx ((hp1.1 x).2 h.symm))], S1, ⟨hp1.1, es', clock, by simp [hlt], hst', hen'⟩, fun x hx => ⟨by rw [(hp1.1 x).1 hx]; simpa using hlt, .inl hx⟩⟩
  exact ⟨(), rfl, hS'.1, hS'.2⟩

theorem keyG_arr2 {t u : TypeId} (ht : P.underlying t = some (.array 2 u)) (hu : P.underlying u = some (.int .i64)) (hA : ∀ w, (isAgg u).run P w = .ok false w) (hs : ∀ w, (sizeOf u).run P w = .ok 1 w) : KeyG P t (fun x : Int × Int => Value.agg #[.int .i64 x.1, .int .i64 x.2]) where
  inj a b h := by
    obtain ⟨a1, a2⟩ := a; obtain ⟨b1, b2⟩ := b
    simp at h
    simp_all
  chk k em w := by
    have h : ∀ (a : Int) (w : World), (Instr.checkKey em 9999 u (.int .i64 a)).run P w = .ok () w := fun a w => Go.MapKept.run_checkKey (k := .int .i64 a) hu (by simp [IsKey]) em 9998
    rw [Instr.checkKey]
    simp only [Sem.run_bind, run_underlying ht, Result.andThen]
    rw [Std.Legacy.Range.forIn_eq_forIn_range']
    simp [Std.Legacy.Range.size, List.range', hs, part, hA, h, Result.andThen]
  now := ⟨_, ht, fun _ _ => rfl⟩
  eql a b w := by
    refine (run_eqInts (d := 9998) (k := .i64) (k' := .i64) [a.1, a.2] [b.1, b.2] rfl rfl ht hu hA hs w).trans ?_
    congr 1
    obtain ⟨a1, a2⟩ := a; obtain ⟨b1, b2⟩ := b
    simp
  bits k := by
    show Instr.sameBits (9999 + 1) _ _ = true
    simp [Instr.sameBits]

def mitF {κ ν : Type} (fk : κ → Value) (fv : ν → Value) (es : Array MapEntry) (clock b r : Nat) (rest : List (κ × ν)) (cur : Option (κ × ν)) : Chunk where
  P S w := (∀ x, S x ↔ x = r) ∧ ∃ seen : Array Nat, w.heap[r]? = some (.mapIter (some b) clock seen clock) ∧ Ents fk fv (leftOf es seen).toList rest ∧
    ∀ p, cur = some p → ∃ (seen0 : Array Nat) (e : MapEntry), seen = seen0.push e.born ∧ e ∈ es.toList ∧ e.key = fk p.1 ∧ e.val = fv p.2
  loc S w w' h hp := ⟨hp.1, by rw [h r ((hp.1 r).2 rfl)]; exact hp.2⟩

omit [DecidableEq κ] in
theorem imp_mitF {es : Array MapEntry} {clock b r : Nat} {rest : List (κ × ν)} (cur : Option (κ × ν)) : Imp (mitF fk fv es clock b r rest cur) (mitF fk fv es clock b r rest none) :=
  ⟨fun S w ⟨h1, seen, h4, h7, _⟩ => ⟨h1, seen, h4, h7, fun p hp => by cases hp⟩⟩

omit [DecidableEq κ] in
theorem makes_rangeF {t kt et d b clock : Nat} {X : Operand} {es : Array MapEntry} {xs : List (κ × ν)} {rds : List Nat} (ht : P.underlying t = some (.map kt et)) (hx : ev e X = .map (some b)) (hb : ∀ w, Fr cx w → w.heap[b]? = some (.map es clock)) (hen : Ents fk fv es.toList xs) :
    Makes P cx e ⟨some d, .range t X, ty, pos, af, g⟩ L rds (fun r : Nat => .pointer (some ⟨r, 0, none⟩)) (fun r => mitF fk fv es clock b r xs none) := fun w L' hF hS _ => by
  unfold RunsTo
  have hr : (execOp (ev e) ⟨some d, .range t X, ty, pos, af, g⟩).run P w = .ok (.value (.pointer (some ⟨w.heap.size, 0, none⟩))) (w.alloc (.mapIter (some b) clock #[] clock)) := by
    have := run_range_map (P := P) w t kt et b es clock ht (hb w hF)
    simp [execOp, hx, this, Result.andThen]
  rw [hr]
  have gr := grow_alloc w (.mapIter (some b) clock #[] clock)
  have hleft : leftOf es #[] = es := by unfold leftOf; simp
  exact ⟨w.heap.size, rfl, gr.os, gr.tape, gr.output, gr.size, fun b hb _ => gr.block b hb, fun x => x = w.heap.size, ⟨fun _ => Iff.rfl, #[], Go.heap_alloc_new w _, by rw [hleft]; exact hen, fun p hp => by cases hp⟩, fun x hx => by subst hx; exact ⟨by simp, .inr (Nat.le_refl _)⟩⟩

omit [DecidableEq κ] in
theorem turns_nextF {d i b r clock : Nat} {X : Operand} {es : Array MapEntry} {rest : List (κ × ν)} {cur : Option (κ × ν)} {rds : List Nat} (hb : ∀ w, Fr cx w → w.heap[b]? = some (.map es clock)) (hst : Stamped es clock) (hx : ev e X = .pointer (some ⟨r, 0, none⟩)) (hL : L[i]? = some (mitF fk fv es clock b r rest cur)) (hr : (!rest.isEmpty) = true) :
    Turns P cx e ⟨some d, .next X false, ty, pos, af, g⟩ L i rds (fun q : { q : (κ × ν) × List (κ × ν) // Pick rest q.1 q.2 } => .tuple #[.bool true, fk q.1.1.1, fv q.1.1.2]) (fun q => mitF fk fv es clock b r q.1.2 (some q.1.1)) := fun w L' hF hS _ hi' => by
  have hL' := (hi' i (.inr rfl)).trans hL
  obtain ⟨S, ⟨_, seen, hit, hlf, _⟩, _⟩ := hS.at hL'
  have hlr : r < w.heap.size := (Array.getElem?_eq_some_iff.1 hit).1
  rcases run_next_at (P := P) w ty r b clock clock seen es clock hit (hb w hF) hst.1 (Nat.le_refl _) with ⟨h0, _⟩ | ⟨en, hen0, w1, hw1, hrun⟩
  · exfalso
    have := hlf.len
    simp at this
    have h0' : rest.length = 0 := by omega
    have : rest = [] := List.eq_nil_of_length_eq_zero h0'
    subst this; simp at hr
  · obtain ⟨j, hj⟩ := List.mem_iff_getElem?.1 hen0
    obtain ⟨p, hp, hk, hv⟩ := hlf.at hj
    have hall : ∀ x, x ∈ (leftOf es seen).toList → x ∈ es.toList := by
      intro x hx; unfold leftOf at hx; simp at hx; simpa using hx.1
    have hnod : ((leftOf es seen).toList.map (·.born)).Nodup := by
      have hs : (leftOf es seen).toList.Sublist es.toList := by unfold leftOf; simp only [Array.toList_filter]; exact List.filter_sublist
      exact (hs.map _).nodup hst.2.1
    have hleft : (leftOf es (seen.push en.born)).toList = (leftOf es seen).toList.eraseIdx j := by
      rw [← filter_born hnod hj]
      unfold leftOf
      simp only [Array.toList_filter, List.filter_filter]
      refine List.filter_congr fun x _ => ?_
      simp only [Array.contains_push]
      by_cases hxe : x.born = en.born <;> simp [hxe, Bool.and_comm]
      all_goals try (cases seen.contains x.born <;> simp_all [eq_comm])
    have hpick : Pick rest p (rest.eraseIdx j) := ⟨j, hp, rfl⟩
    unfold RunsTo
    have hr' : (execOp (ev e) ⟨some d, .next X false, ty, pos, af, g⟩).run P w = .ok (.value (.tuple #[.bool true, en.key, en.val])) (Go.ChangeMaps.setBlock w1 r (.mapIter (some b) clock (seen.push en.born) clock)) := by
      simp [execOp, hx, hrun, Result.andThen]
    rw [hr']
    have hw : w1.heap = w.heap ∧ w1.os = w.os ∧ w1.tape = w.tape ∧ w1.output = w.output := by rcases hw1 with rfl | rfl <;> exact ⟨rfl, rfl, rfl, rfl⟩
    obtain ⟨e1, e2, e3, e4⟩ := hw
    have hS' := hS.turnOf (w' := Go.ChangeMaps.setBlock w1 r (.mapIter (some b) clock (seen.push en.born) clock)) hF hL' (C := mitF fk fv es clock b r (rest.eraseIdx j) (some p)) fun S1 hp1 =>
      ⟨e2, e3, e4, by simp [Go.ChangeMaps.setBlock, e1], fun x _ hx => by
        have : r ≠ x := fun q => hx ((hp1.1 x).2 q.symm)
        simp only [Go.ChangeMaps.setBlock, e1]
        rw [Array.getElem?_setIfInBounds_ne this], S1, ⟨hp1.1, seen.push en.born, by simp [Go.ChangeMaps.setBlock, e1, hlr], by rw [hleft]; exact hlf.erase j, fun q hq => by cases hq; exact ⟨seen, en, rfl, hall _ hen0, hk, hv⟩⟩, fun x hx => by
          refine ⟨?_, .inl hx⟩
          obtain rfl := (hp1.1 x).1 hx
          simpa [Go.ChangeMaps.setBlock, e1] using hlr⟩
    exact ⟨⟨(p, rest.eraseIdx j), hpick⟩, by simp [hk, hv], hS'.1, hS'.2⟩

omit [DecidableEq κ] in
theorem r_nextOverF {d : Option Nat} {X : Operand} {i b r clock : Nat} {es : Array MapEntry} {rest : List (κ × ν)} {cur : Option (κ × ν)} {w : World} (hb : w.heap[b]? = some (.map es clock)) (hst : Stamped es clock) (hS : Sat cx w L) (hL : L[i]? = some (mitF fk fv es clock b r rest cur)) (hx : ev e X = .pointer (some ⟨r, 0, none⟩)) (hr : (!rest.isEmpty) = false) :
    (execOp (ev e) ⟨d, .next X false, ty, pos, af, g⟩).run P w = .ok (.value (.tuple #[.bool false])) w := by
  obtain ⟨S, ⟨_, seen, hit, hlf, _⟩, _⟩ := hS.at hL
  rcases run_next_at (P := P) w ty r b clock clock seen es clock hit hb hst.1 (Nat.le_refl _) with ⟨_, hrun⟩ | ⟨en, hen0, _⟩
  · simp [execOp, hx, hrun, Result.andThen]
  · exfalso
    have h1 := hlf.len
    have h2 : rest = [] := by simpa using hr
    subst h2
    have h3 := List.length_pos_of_mem hen0
    rw [h1] at h3; simp at h3

omit [DecidableEq κ] in
theorem r_entryF {d : Option Nat} {X : Operand} {i b r clock : Nat} {es : Array MapEntry} {rest : List (κ × ν)} {p : κ × ν} {w : World} (hb : w.heap[b]? = some (.map es clock)) (hst : Stamped es clock) (hS : Sat cx w L) (hL : L[i]? = some (mitF fk fv es clock b r rest (some p))) (hx : ev e X = .pointer (some ⟨r, 0, none⟩)) :
    (execOp (ev e) ⟨d, .entry X, ty, pos, af, g⟩).run P w = .ok (.value (.tuple #[fk p.1, fv p.2])) w := by
  obtain ⟨S, ⟨_, seen, hit, hlf, hcur⟩, _⟩ := hS.at hL
  obtain ⟨seen0, en, rfl, hm, hk, hv⟩ := hcur p rfl
  have hrun := run_entry_at (P := P) w r b clock seen0 es clock en hit hb hm hst.2.1
  simp [execOp, hx, hrun, hk, hv, Result.andThen]
end

section rules
variable {P : Program} {n : Nat} {cx : Cx} {Q : Post} {e : Env} {L : List Chunk} {ops : Array Oper} {rest_ : List Oper} {ty : TypeId} {pos : String} {af : Array Edge} {g : Option (Nat × Bool)} {κ ν : Type} {fk : κ → Value} {fv : ν → Value}
theorem l_nextF {d i b r clock : Nat} {X : Operand} {es : Array MapEntry} {rest : List (κ × ν)} {cur : Option (κ × ν)} (hb : ∀ w, Fr cx w → w.heap[b]? = some (.map es clock)) (hst : Stamped es clock) (hx : ev e X = .pointer (some ⟨r, 0, none⟩)) (hL : L[i]? = some (mitF fk fv es clock b r rest cur)) (hr : (!rest.isEmpty) = true)
    (hw : want ops ⟨some d, .next X false, ty, pos, af, g⟩ e = true) (hd : Nat.blt d n = true)
    (k : ∀ p rest', Pick rest p rest' → At cx (WL P n ops Q rest_) (upd e d (.tuple #[.bool true, fk p.1, fv p.2])) (L.set i (mitF fk fv es clock b r rest' (some p)))) : At cx (WL P n ops Q (⟨some d, .next X false, ty, pos, af, g⟩ :: rest_)) e L :=
  l_turn (turns_nextF (rds := []) hb hst hx hL hr) hw rfl hd fun q => k q.1.1 q.1.2 q.2
end rules

section
variable {α : Type} {E : Nat} {en : α → List Value} {h h' : Heap}
abbrev fkG : Int → Value := fun x => .int .i64 x
def pcG (p : Int × Value) : List Value := [.int .i64 p.1, p.2]
def GrE (E : Nat) (en : α → List Value) (h : Heap) (c : List Value) (x : Int × List α) (bs : List Nat) : Prop := ∃ v, c = [.int .i64 x.1, v] ∧ RowP h E 1 v (x.2.map en) ∧ bs = v.ownBlock.toList
theorem GrE.mono {c : List Value} {x : Int × List α} {b : List Nat} : GrE E en h c x b → (∀ q ∈ b, ∀ o, h q = some o → h' q = some o) → GrE E en h' c x b := by
  rintro ⟨v, rfl, r, rfl⟩ k
  exact ⟨v, rfl, r.mono fun b hb o ho => k b (by rw [hb]; exact List.mem_singleton.2 rfl) o ho, rfl⟩
def grpC (E : Nat) (en : α → List Value) (b : Nat) (xs : List (Int × List α)) : Chunk := exC fun ms : List (Int × Value) => bothC (mapC fkG id b ms) (ownC fun h bs => KidsG (GrE E en) h (ms.map pcG) xs bs)
theorem grp_one : ∀ {ms : List (Int × Value)} {xs : List (Int × List α)} {bs : List Nat}, KidsG (GrE E en) h (ms.map pcG) xs bs → ms.map (·.1) = xs.map (·.1) ∧ ∀ (i : Nat) (p : Int × Value) (x : Int × List α), ms[i]? = some p → xs[i]? = some x → RowP h E 1 p.2 (x.2.map en)
  | [], [], _, _ => ⟨rfl, fun i p x hp _ => by simp at hp⟩
  | [], _ :: _, _, k => k.elim
  | _ :: _, [], _, k => k.elim
  | m :: ms, y :: xs, _, ⟨b1, b2, ⟨v, e, r, _⟩, k2, _⟩ => by
    obtain ⟨i1, i2⟩ := grp_one k2
    have e := List.cons.inj e
    have e1 : m.1 = y.1 := by simpa using e.1
    have e2 : m.2 = v := by simpa using e.2
    refine ⟨by simp [e1, i1], fun i p x hp hx => ?_⟩
    cases i with
    | zero => cases hp; cases hx; rw [e2]; exact r
    | succ i => exact i2 i p x hp hx
structure FrG (h : Heap) (en : α → List Value) (v : Value) (xs : List (Int × List α)) : Prop where
  out : ∃ ms : List (Int × Value), FrM h fkG id v ms ∧ ms.map (·.1) = xs.map (·.1) ∧ ∀ (i : Nat) (p : Int × Value) (x : Int × List α), ms[i]? = some p → xs[i]? = some x → FrS h 1 p.2 (x.2.map en)
variable {v : Value} {xs : List (Int × List α)}
theorem FrG.mono (f : FrG h en v xs) (k : ∀ b o, h b = some o → h' b = some o) : FrG h' en v xs := by
  obtain ⟨ms, h1, h2, h3⟩ := f.out
  exact ⟨ms, h1.mono k, h2, fun i p x hp hx => (h3 i p x hp hx).mono k⟩
theorem FrG.cells (f : FrG h en v xs) : v.cells.toList = [v] := by
  obtain ⟨ms, h1, _⟩ := f.out; exact h1.cells
theorem grp_fr {b : Nat} {S : Nat → Prop} {w : World} (hH : ∀ b o, S b → w.heap[b]? = some o → h b = some o) (k : (grpC E en b xs).P S w) : FrG h en (.map (some b)) xs := by
  obtain ⟨ms, S1, S2, ⟨m1, es, c, hb, hst, hen⟩, ⟨hp, ⟨bs, k, _⟩, pl⟩, s1, s2, _⟩ := k
  obtain ⟨g1, g2⟩ := grp_one k
  refine ⟨ms, ⟨b, es, c, rfl, hH b _ (s1 b ((m1 b).2 rfl)) hb, hst, hen⟩, g1, fun i p x hi hx => ((g2 i p x hi hx).frs).mono fun b o h => ?_⟩
  have := (pl.2 b o h).elim (fun h => by cases h) id
  exact hH b o (s2 b this.1) this.2
end
section
variable {P : Program} {cx : Cx} {L : List Chunk} {α : Type} {E : Nat} {en : α → List Value} {xs : List (Int × List α)}
theorem frs_grp {w : World} {i b : Nat} (hS : Sat cx w L) (hL : L[i]? = some (grpC E en b xs)) : FrG (fun b => w.heap[b]?) en (.map (some b)) xs := by
  obtain ⟨S, k, _⟩ := hS.at hL
  exact grp_fr (fun b o _ h => h) k
end
end Go.Lx

namespace Go.Proofs.Ytfihhlfkoghjeaa
open Go Go.Vc Go.Md Go.M Go.Lx
set_option maxRecDepth 100000
set_option maxHeartbeats 4000000
set_option linter.unusedVariables false

theorem mixed : Try.prog.follows .mixedOrders = true := by kernel_rfl

abbrev e_i64 (x : Int) : List Value := [.int .i64 x]
abbrev e_face_Likeness (x : T_face_Likeness) : List Value := [.int .i64 x.Id, .int .i64 x.Photo, .int .i64 (x.Vec 0), .int .i64 (x.Vec 1), .int .i64 (x.Vec 2), .int .i64 (x.Vec 3), .int .i64 (x.Vec 4), .int .i64 (x.Vec 5), .int .i64 (x.Vec 6), .int .i64 (x.Vec 7), .int .i64 (x.Vec 8), .int .i64 (x.Vec 9), .int .i64 (x.Vec 10), .int .i64 (x.Vec 11)]
def fnR_func_face_Likeness_int_int (m : (T_face_Likeness → Int → Option (Int))) (w : World) (args : List Value) (post : Value → World → Prop) : Prop :=
  ∃ (a0 : T_face_Likeness) (a1 : Int) (r : Int), args = [.agg #[.int .i64 a0.Id, .int .i64 a0.Photo, .int .i64 (a0.Vec 0), .int .i64 (a0.Vec 1), .int .i64 (a0.Vec 2), .int .i64 (a0.Vec 3), .int .i64 (a0.Vec 4), .int .i64 (a0.Vec 5), .int .i64 (a0.Vec 6), .int .i64 (a0.Vec 7), .int .i64 (a0.Vec 8), .int .i64 (a0.Vec 9), .int .i64 (a0.Vec 10), .int .i64 (a0.Vec 11)], .int .i64 a1] ∧ m a0 a1 = some r ∧ post = fun v' w' => v' = (.int .i64 r) ∧ Grow w w'
abbrev e_face_Bond (x : T_face_Bond) : List Value := [.int .i64 x.A, .int .i64 x.B, .bool x.Must]
abbrev e_2_int (x : (Nat → Int)) : List Value := [.int .i64 (x 0), .int .i64 (x 1)]
abbrev e_bool (x : Bool) : List Value := [.bool x]
abbrev e_face_Vec (x : (Nat → Int)) : List Value := [.int .i64 (x 0), .int .i64 (x 1), .int .i64 (x 2), .int .i64 (x 3), .int .i64 (x 4), .int .i64 (x 5), .int .i64 (x 6), .int .i64 (x 7), .int .i64 (x 8), .int .i64 (x 9), .int .i64 (x 10), .int .i64 (x 11)]

def gs_int (h : Heap) (c : Nat → Value) (x : (List Int)) : Prop := FrS h 1 (c 0) (x.map e_i64)
instance : Mon gs_int := ⟨fun k _ _ f => FrS.mono f k⟩
theorem cgs_int {h : Heap} {c : Nat → Value} {x : (List Int)} (_ : gs_int h c x) : (List.range 1).map c = [c 0] := rfl
def gs_bool (h : Heap) (c : Nat → Value) (x : (List Bool)) : Prop := FrS h 1 (c 0) (x.map e_bool)
instance : Mon gs_bool := ⟨fun k _ _ f => FrS.mono f k⟩
theorem cgs_bool {h : Heap} {c : Nat → Value} {x : (List Bool)} (_ : gs_bool h c x) : (List.range 1).map c = [c 0] := rfl

theorem k28 {a0 : (Nat → Int)} {a1 : (Nat → Int)} {r : Int} (H : face_far a0 a1 = some r) : Ret Try.prog 28 [.agg #[.int .i64 (a0 0), .int .i64 (a0 1), .int .i64 (a0 2), .int .i64 (a0 3), .int .i64 (a0 4), .int .i64 (a0 5), .int .i64 (a0 6), .int .i64 (a0 7), .int .i64 (a0 8), .int .i64 (a0 9), .int .i64 (a0 10), .int .i64 (a0 11)], .agg #[.int .i64 (a1 0), .int .i64 (a1 1), .int .i64 (a1 2), .int .i64 (a1 3), .int .i64 (a1 4), .int .i64 (a1 5), .int .i64 (a1 6), .int .i64 (a1 7), .int .i64 (a1 8), .int .i64 (a1 9), .int .i64 (a1 10), .int .i64 (a1 11)]] (.int .i64 r) := by
 refine enterRet (n := 28) Try.func28 rfl rfl rfl (fun wd => ?_)
 refine c_seq ?_
 refine c_region ?_
 refine l_box (cs := [.int .i64 (a0 0), .int .i64 (a0 1), .int .i64 (a0 2), .int .i64 (a0 3), .int .i64 (a0 4), .int .i64 (a0 5), .int .i64 (a0 6), .int .i64 (a0 7), .int .i64 (a0 8), .int .i64 (a0 9), .int .i64 (a0 10), .int .i64 (a0 11)]) rfl rfl rfl rfl (fun b2 => ?_)
 refine l_box (cs := [.int .i64 (a1 0), .int .i64 (a1 1), .int .i64 (a1 2), .int .i64 (a1 3), .int .i64 (a1 4), .int .i64 (a1 5), .int .i64 (a1 6), .int .i64 (a1 7), .int .i64 (a1 8), .int .i64 (a1 9), .int .i64 (a1 10), .int .i64 (a1 11)]) rfl rfl rfl rfl (fun b3 => ?_)
 refine l_val rfl rfl rfl (r_assign (v := .int .i64 0) rfl) ?_
 refine l_nil ?_
 refine c_seq ?_
 refine c_region ?_
 refine l_val rfl rfl rfl (r_assign (v := .int .i64 0) rfl) ?_
 refine l_nil ?_
 refine c_seq ?_
 refine c_seq ?_
 refine c_region ?_
 refine l_loadN (i := 0) (vs := [.int .i64 (a0 0), .int .i64 (a0 1), .int .i64 (a0 2), .int .i64 (a0 3), .int .i64 (a0 4), .int .i64 (a0 5), .int .i64 (a0 6), .int .i64 (a0 7), .int .i64 (a0 8), .int .i64 (a0 9), .int .i64 (a0 10), .int .i64 (a0 11)]) Try.isAgg52 Try.sizeOf52 rfl rfl rfl rfl rfl ?_
 refine l_val rfl rfl rfl (r_move (v := .int .i64 0) rfl) ?_
 refine l_nil ?_
 refine c_block ?_
 refine c_sel [1] [cellsC b3 [.int .i64 (a1 0), .int .i64 (a1 1), .int .i64 (a1 2), .int .i64 (a1 3), .int .i64 (a1 4), .int .i64 (a1 5), .int .i64 (a1 6), .int .i64 (a1 7), .int .i64 (a1 8), .int .i64 (a1 9), .int .i64 (a1 10), .int .i64 (a1 11)] 52] rfl (by decide) ?_
 refine c_fix (σ := Int × Int) (τ := Unit) (fun next1 s => face_far_l1 a0 a1 next1 s.1 s.2) (fun s t => [(3, .pointer (some ⟨b3, 0, none⟩)), (5, .int .i64 s.1), (8, .agg #[.int .i64 (a0 0), .int .i64 (a0 1), .int .i64 (a0 2), .int .i64 (a0 3), .int .i64 (a0 4), .int .i64 (a0 5), .int .i64 (a0 6), .int .i64 (a0 7), .int .i64 (a0 8), .int .i64 (a0 9), .int .i64 (a0 10), .int .i64 (a0 11)]), (9, .int .i64 s.2)]) (fun s t => [cellsC b3 [.int .i64 (a1 0), .int .i64 (a1 1), .int .i64 (a1 2), .int .i64 (a1 3), .int .i64 (a1 4), .int .i64 (a1 5), .int .i64 (a1 6), .int .i64 (a1 7), .int .i64 (a1 8), .int .i64 (a1 9), .int .i64 (a1 10), .int .i64 (a1 11)] 52]) (fun s t => True) (0, 0) () [0] H (by exact trivial) (by exact ⟨rfl, rfl, rfl, rfl, trivial⟩) (by decide) rfl ?_
 rintro ⟨x5_2, x9_2⟩ _ m1 gg H12 _
 clear H
 replace H12 : face_far_l1 a0 a1 (it (fun next1 s => face_far_l1 a0 a1 next1 s.1 s.2) m1) x5_2 x9_2 = some r := H12
 generalize hn1 : it (fun next1 s => face_far_l1 a0 a1 next1 s.1 s.2) m1 = next1 at H12
 refine c_tidyF [(3, .pointer (some ⟨b3, 0, none⟩)), (5, .int .i64 x5_2), (8, .agg #[.int .i64 (a0 0), .int .i64 (a0 1), .int .i64 (a0 2), .int .i64 (a0 3), .int .i64 (a0 4), .int .i64 (a0 5), .int .i64 (a0 6), .int .i64 (a0 7), .int .i64 (a0 8), .int .i64 (a0 9), .int .i64 (a0 10), .int .i64 (a0 11)]), (9, .int .i64 x9_2)] [cellsC b3 [.int .i64 (a1 0), .int .i64 (a1 1), .int .i64 (a1 2), .int .i64 (a1 3), .int .i64 (a1 4), .int .i64 (a1 5), .int .i64 (a1 6), .int .i64 (a1 7), .int .i64 (a1 8), .int .i64 (a1 9), .int .i64 (a1 10), .int .i64 (a1 11)] 52] rfl rfl ?_
 refine c_seq ?_
 refine c_region ?_
 refine l_val rfl rfl rfl (r_lss rfl rfl) ?_
 refine l_nil ?_
 refine c_seq ?_
 refine c_if (b := (decide (x9_2 < 12))) rfl (fun hb => ?_) (fun hb => ?_)
 ·have H13 := cnd_t hb H12; clear H12
  refine c_skip ?_
  refine c_seq ?_
  refine c_block ?_
  refine c_seq ?_
  refine c_region ?_
  refine l_val rfl rfl rfl (r_move (v := .int .i64 x9_2) rfl) ?_
  obtain ⟨k12, h_k12, H14⟩ := bnd_some H13; clear H13
  refine l_val rfl rfl rfl (r_indexAG (f := fun j_ => .int .i64 (a0 j_)) Try.runUnderlying52 Try.isAgg3 Try.sizeOf3 rfl rfl rfl h_k12) ?_
  refine l_val rfl rfl rfl (r_assign (v := .int .i64 x9_2) rfl) ?_
  refine l_val rfl rfl rfl (r_assign (v := .int .i64 (a0 k12)) rfl) ?_
  refine l_nil ?_
  exact c_regionD (Kd.p :: Kd.p :: Kd.p :: Kd.p :: Kd.d [0] _ :: Kd.p :: Kd.p :: Kd.p :: Kd.p :: Kd.d [0] _ :: Kd.p :: Kd.p :: Kd.p :: Kd.p :: []) 0 mixed (by
   refine d_val rfl rfl (r_move (v := .int .i64 x5_2) rfl) ?_
   refine d_val rfl rfl (r_move (v := .int .i64 (a0 k12)) rfl) ?_
   refine d_val rfl rfl (r_move (v := .int .i64 x9_2) rfl) ?_
   have h_k16 := bnd_val H14
   have H15 := bnd_rest H14
   refine d_val rfl rfl (r_indexPG Try.runUnderlying52 Try.sizeOf3 rfl rfl h_k16) ?_
   refine d_load1 (i := 0) (v := .int .i64 (a1 (val (gIx 12 x9_2)))) Try.isAgg3 rfl rfl rfl (rg_arr (pre := []) (post := []) (f := fun j_ => [.int .i64 (a1 j_)]) (n := 12) (sz := 1) (q := 0) rfl rfl (fun _ => rfl) (gIx_lt h_k16) rfl) ?_
   have h_t18 := bnd_val H15
   have H16 := bnd_rest H15
   refine d_val rfl rfl (r_subG rfl rfl h_t18) ?_
   refine d_val rfl rfl (r_move (v := .int .i64 (a0 k12)) rfl) ?_
   refine d_val rfl rfl (r_move (v := .int .i64 x9_2) rfl) ?_
   have h_k21 := bnd_val H16
   have H17 := bnd_rest H16
   refine d_val rfl rfl (r_indexPG Try.runUnderlying52 Try.sizeOf3 rfl rfl h_k21) ?_
   refine d_load1 (i := 0) (v := .int .i64 (a1 (val (gIx 12 x9_2)))) Try.isAgg3 rfl rfl rfl (rg_arr (pre := []) (post := []) (f := fun j_ => [.int .i64 (a1 j_)]) (n := 12) (sz := 1) (q := 0) rfl rfl (fun _ => rfl) (gIx_lt h_k21) rfl) ?_
   have h_t23 := bnd_val H17
   have H18 := bnd_rest H17
   refine d_val rfl rfl (r_subG rfl rfl h_t23) ?_
   have h_t24 := bnd_val H18
   have H19 := bnd_rest H18
   refine d_val rfl rfl (r_mulG rfl rfl h_t24) ?_
   have h_t25 := bnd_val H19
   have H20 := bnd_rest H19
   refine d_val rfl rfl (r_addG rfl rfl h_t25) ?_
   refine d_val rfl rfl (r_assign (v := .int .i64 (val (gI (x5_2 + (val (gI ((val (gI ((a0 k12) - (a1 (val (gIx 12 x9_2)))))) * (val (gI ((a0 k12) - (a1 (val (gIx 12 x9_2))))))))))))) rfl) ?_
   refine d_nil ?_
   refine c_region ?_
   obtain ⟨t26, h_t26, H21⟩ := bnd_some H20; clear H20
   refine l_val rfl rfl rfl (r_addG rfl rfl h_t26) ?_
   refine l_val rfl rfl rfl (r_move (v := .int .i64 t26) rfl) ?_
   refine l_nil ?_
   refine c_close ((val (gI (x5_2 + (val (gI ((val (gI ((a0 k12) - (a1 (val (gIx 12 x9_2)))))) * (val (gI ((a0 k12) - (a1 (val (gIx 12 x9_2)))))))))))), t26) () m1 [0] (by exact ⟨rfl, rfl, rfl, rfl, trivial⟩) (by decide) (by kernel_rfl) (by exact ⟨(by subst hn1; exact H21), trivial⟩) (Nat.lt_succ_self _)
   ) (by kernel_rfl)
 ·have H22 := cnd_f hb H12; clear H12
  refine c_exit ?_
  refine c_seq ?_
  refine c_region ?_
  refine l_val rfl rfl rfl (r_move (v := .int .i64 x5_2) rfl) ?_
  refine l_val rfl rfl rfl (r_assign (v := .int .i64 x5_2) rfl) ?_
  refine l_nil ?_
  refine c_ret ?_
  obtain rfl := Option.some.inj H22
  refine ret1 (v := .int .i64 x5_2) rfl rfl (fin rfl)
theorem k90 {a0 : (List Int)} {v0 : Value} {a1 : Int} {r : Int} {w : World} {h : Heap} (hw : Know h w noS) (f0 : FrS h 1 v0 (a0.map e_i64)) (H : slices_Index_int a0 a1 = some r) : Does Try.prog 90 (List.toArray [v0, .int .i64 a1]) w (fun v w' => v = (.int .i64 r) ∧ Grow w w') := by
 refine enter (n := 19) Try.func90 rfl rfl rfl noS [] (Sat.nil _ _) ?_
 refine c_seq ?_
 refine c_region ?_
 refine l_val rfl rfl rfl (r_assign (v := .int .i64 0) rfl) ?_
 refine l_nil ?_
 refine c_seq ?_
 refine c_seq ?_
 refine c_region ?_
 refine l_val rfl rfl rfl (r_move (v := v0) rfl) ?_
 refine l_val rfl rfl rfl (r_lenF Try.underlying30 rfl f0 rfl) ?_
 refine l_val rfl rfl rfl (r_move (v := .int .i64 0) rfl) ?_
 refine l_nil ?_
 refine c_block ?_
 refine c_fix (σ := Int) (τ := Unit) (fun next1 s => slices_Index_int_l1 a0 a1 next1 s) (fun s t => [(0, v0), (1, .int .i64 a1), (7, .int .i64 (a0.length : Int)), (8, .int .i64 s)]) (fun s t => []) (fun s t => True) 0 () [] H (by exact trivial) (by exact ⟨rfl, rfl, rfl, rfl, trivial⟩) (by decide) rfl ?_
 rintro x8_2 _ m1 gg H8 _
 clear H
 replace H8 : slices_Index_int_l1 a0 a1 (it (fun next1 s => slices_Index_int_l1 a0 a1 next1 s) m1) x8_2 = some r := H8
 generalize hn1 : it (fun next1 s => slices_Index_int_l1 a0 a1 next1 s) m1 = next1 at H8
 refine c_tidyF [(0, v0), (1, .int .i64 a1), (7, .int .i64 (a0.length : Int)), (8, .int .i64 x8_2)] [] rfl rfl ?_
 refine c_seq ?_
 refine c_region ?_
 refine l_val rfl rfl rfl (r_lss rfl rfl) ?_
 refine l_nil ?_
 refine c_seq ?_
 refine c_if (b := (decide (x8_2 < (a0.length : Int)))) rfl (fun hb => ?_) (fun hb => ?_)
 ·have H9 := cnd_t hb H8; clear H8
  refine c_skip ?_
  refine c_seq ?_
  refine c_block ?_
  refine c_seq ?_
  refine c_region ?_
  refine l_val rfl rfl rfl (r_move (v := .int .i64 x8_2) rfl) ?_
  refine l_val rfl rfl rfl (r_assign (v := .int .i64 x8_2) rfl) ?_
  refine l_nil ?_
  refine c_seq ?_
  refine c_region ?_
  refine l_val rfl rfl rfl (r_move (v := .int .i64 a1) rfl) ?_
  refine l_val rfl rfl rfl (r_move (v := v0) rfl) ?_
  refine l_val rfl rfl rfl (r_move (v := .int .i64 x8_2) rfl) ?_
  obtain ⟨t14, h_t14, H10⟩ := bnd_some H9; clear H9
  refine l_val rfl rfl rfl (r_indexF Try.underlying30 Try.sizeOf3 rfl rfl f0 h_t14) ?_
  refine l_read (fun w hF hS => run_loadG1 (f := e_i64) (i := x8_2) (sz := 1) (j := 0) (v := .int .i64 t14) Try.isAgg3 rfl rfl (f0.row (hw.now hF)) h_t14 rfl) rfl rfl rfl ?_
  refine l_val rfl rfl rfl (r_eql rfl rfl) ?_
  refine l_nil ?_
  refine c_if (b := (decide (a1 = t14))) rfl (fun hb => ?_) (fun hb => ?_)
  ·have H11 := cnd_t hb H10; clear H10
   refine c_seq ?_
   refine c_region ?_
   refine l_val rfl rfl rfl (r_move (v := .int .i64 x8_2) rfl) ?_
   refine l_val rfl rfl rfl (r_assign (v := .int .i64 x8_2) rfl) ?_
   refine l_nil ?_
   refine c_ret ?_
   obtain rfl := Option.some.inj H11
   refine ret1 (v := .int .i64 x8_2) rfl rfl (fin rfl)
  ·have H12 := cnd_f hb H10; clear H10
   refine c_skip ?_
   refine c_region ?_
   obtain ⟨t18, h_t18, H13⟩ := bnd_some H12; clear H12
   refine l_val rfl rfl rfl (r_addG rfl rfl h_t18) ?_
   refine l_val rfl rfl rfl (r_move (v := .int .i64 t18) rfl) ?_
   refine l_nil ?_
   refine c_close t18 () m1 [] (by exact ⟨rfl, rfl, rfl, rfl, trivial⟩) (by decide) (by kernel_rfl) (by exact ⟨(by subst hn1; exact H13), trivial⟩) (Nat.lt_succ_self _)
 ·have H14 := cnd_f hb H8; clear H8
  refine c_exit ?_
  refine c_seq ?_
  refine c_region ?_
  refine l_val rfl rfl rfl (r_assign (v := .int .i64 (-1)) rfl) ?_
  refine l_nil ?_
  refine c_ret ?_
  obtain rfl := Option.some.inj H14
  refine ret1 (v := .int .i64 (-1)) rfl rfl (fin rfl)
theorem k69 {a0 : (List Int)} {v0 : Value} {a1 : Int} {r : Bool} {w : World} {h : Heap} (hw : Know h w noS) (f0 : FrS h 1 v0 (a0.map e_i64)) (H : slices_Contains_int a0 a1 = some r) : Does Try.prog 69 (List.toArray [v0, .int .i64 a1]) w (fun v w' => v = (.bool r) ∧ Grow w w') := by
 refine enter (n := 9) Try.func69 rfl rfl rfl noS [] (Sat.nil _ _) ?_
 refine c_seq ?_
 refine c_region ?_
 refine l_val rfl rfl rfl (r_assign (v := .bool false) rfl) ?_
 refine l_nil ?_
 refine c_seq ?_
 refine c_region ?_
 refine l_val rfl rfl rfl (r_move (v := v0) rfl) ?_
 refine l_val rfl rfl rfl (r_move (v := .int .i64 a1) rfl) ?_
 obtain ⟨t7, h_t7, H2⟩ := bnd_some H; clear H
 refine l_callG (fun w hF hS => k90 (know_all w) (f0.mono (hw.now hF)) h_t7) Try.call90 rfl rfl rfl ?_
 refine l_val rfl rfl rfl (r_geq rfl rfl) ?_
 refine l_val rfl rfl rfl (r_assign (v := .bool (decide (0 ≤ t7))) rfl) ?_
 refine l_nil ?_
 refine c_ret ?_
 obtain rfl := Option.some.inj H2
 refine ret1 (v := .bool (decide (0 ≤ t7))) rfl rfl (fin rfl)
theorem k60 {a0 : (List T_face_Likeness)} {v0 : Value} {a1 : Int} {a2 : (T_face_Likeness → Int → Option (Int))} {v2 : Value} {r : Int × Bool} {w : World} {h : Heap} (hw : Know h w noS) (f0 : FrS h 14 v0 (a0.map e_face_Likeness)) (f2 : FnH Try.prog h v2 (fnR_func_face_Likeness_int_int a2)) (H : slices_BinarySearchFunc_face_Likeness_int a0 a1 a2 = some r) : Does Try.prog 60 (List.toArray [v0, .int .i64 a1, v2]) w (fun v w' => v = (.tuple #[.int .i64 r.1, .bool r.2]) ∧ Grow w w') := by
 refine enter (n := 49) Try.func60 rfl rfl rfl noS [] (Sat.nil _ _) ?_
 refine c_seq ?_
 refine c_region ?_
 refine l_val rfl rfl rfl (r_assign (v := .int .i64 0) rfl) ?_
 refine l_val rfl rfl rfl (r_assign (v := .bool false) rfl) ?_
 refine l_nil ?_
 refine c_seq ?_
 refine c_region ?_
 refine l_val rfl rfl rfl (r_move (v := v0) rfl) ?_
 refine l_val rfl rfl rfl (r_lenF Try.underlying22 rfl f0 rfl) ?_
 refine l_val rfl rfl rfl (r_assign (v := .int .i64 (a0.length : Int)) rfl) ?_
 refine l_nil ?_
 refine c_seq ?_
 refine c_region ?_
 refine l_val rfl rfl rfl (r_move (v := .int .i64 (a0.length : Int)) rfl) ?_
 refine l_val rfl rfl rfl (r_assign (v := .int .i64 0) rfl) ?_
 refine l_val rfl rfl rfl (r_assign (v := .int .i64 (a0.length : Int)) rfl) ?_
 refine l_nil ?_
 refine c_meet (r := r) (σ := Int) (τ := Unit) (fun s => slices_BinarySearchFunc_face_Likeness_int_j1 a0 a1 a2 s) (fun s t => [(0, v0), (1, .int .i64 a1), (2, v2), (8, .int .i64 (a0.length : Int)), (9, .int .i64 s)]) (fun s t => []) (fun s t => True) ?_ ?_
 ·refine c_block ?_
  refine c_fix (σ := Int × Int) (τ := Unit) (fun next2 s => slices_BinarySearchFunc_face_Likeness_int_l2 a0 a1 a2 next2 s.1 s.2) (fun s t => [(0, v0), (1, .int .i64 a1), (2, v2), (8, .int .i64 (a0.length : Int)), (9, .int .i64 s.1), (10, .int .i64 s.2)]) (fun s t => []) (fun s t => True) (0, (a0.length : Int)) () [] H (by exact trivial) (by exact ⟨rfl, rfl, rfl, rfl, rfl, rfl, trivial⟩) (by decide) rfl ?_
  rintro ⟨x9_3, x10_2⟩ _ m2 gg H21 _
  clear H
  replace H21 : slices_BinarySearchFunc_face_Likeness_int_l2 a0 a1 a2 (it (fun next2 s => slices_BinarySearchFunc_face_Likeness_int_l2 a0 a1 a2 next2 s.1 s.2) m2) x9_3 x10_2 = some r := H21
  generalize hn2 : it (fun next2 s => slices_BinarySearchFunc_face_Likeness_int_l2 a0 a1 a2 next2 s.1 s.2) m2 = next2 at H21
  refine c_tidyF [(0, v0), (1, .int .i64 a1), (2, v2), (8, .int .i64 (a0.length : Int)), (9, .int .i64 x9_3), (10, .int .i64 x10_2)] [] rfl rfl ?_
  refine c_seq ?_
  refine c_seq ?_
  refine c_region ?_
  refine l_val rfl rfl rfl (r_move (v := .int .i64 x9_3) rfl) ?_
  refine l_val rfl rfl rfl (r_move (v := .int .i64 x10_2) rfl) ?_
  refine l_val rfl rfl rfl (r_lss rfl rfl) ?_
  refine l_nil ?_
  refine c_if (b := (decide (x9_3 < x10_2))) rfl (fun hb => ?_) (fun hb => ?_)
  ·have H22 := cnd_t hb H21; clear H21
   refine c_skip ?_
   refine c_block ?_
   refine c_seq ?_
   refine c_region ?_
   refine l_val rfl rfl rfl (r_move (v := .int .i64 x9_3) rfl) ?_
   refine l_val rfl rfl rfl (r_move (v := .int .i64 x10_2) rfl) ?_
   obtain ⟨t20, h_t20, H23⟩ := bnd_some H22; clear H22
   refine l_val rfl rfl rfl (r_addG rfl rfl h_t20) ?_
   refine l_val rfl rfl rfl (r_convG Try.runUnderlying3 Try.runUnderlying112 rfl (wr_u64 _)) ?_
   obtain ⟨t22, h_t22, H24⟩ := bnd_some H23; clear H23
   refine l_val rfl rfl rfl (r_shrG rfl rfl rfl h_t22) ?_
   refine l_val rfl rfl rfl (r_convG Try.runUnderlying112 Try.runUnderlying3 rfl (wr_i64 _)) ?_
   refine l_val rfl rfl rfl (r_assign (v := .int .i64 (wI64 t22)) rfl) ?_
   refine l_nil ?_
   refine c_seq ?_
   refine c_region ?_
   refine l_val rfl rfl rfl (r_move (v := v2) rfl) ?_
   refine l_val rfl rfl rfl (r_move (v := v0) rfl) ?_
   refine l_val rfl rfl rfl (r_move (v := .int .i64 (wI64 t22)) rfl) ?_
   obtain ⟨t27, h_t27, H25⟩ := bnd_some H24; clear H24
   refine l_val rfl rfl rfl (r_indexF Try.underlying22 Try.sizeOf64 rfl rfl f0 h_t27) ?_
   refine l_read (fun w hF hS => run_loadGN (f := e_face_Likeness) (i := (wI64 t22)) (sz := 14) (j := 0) (vs := [.int .i64 t27.Id, .int .i64 t27.Photo, .int .i64 (t27.Vec 0), .int .i64 (t27.Vec 1), .int .i64 (t27.Vec 2), .int .i64 (t27.Vec 3), .int .i64 (t27.Vec 4), .int .i64 (t27.Vec 5), .int .i64 (t27.Vec 6), .int .i64 (t27.Vec 7), .int .i64 (t27.Vec 8), .int .i64 (t27.Vec 9), .int .i64 (t27.Vec 10), .int .i64 (t27.Vec 11)]) Try.isAgg64 Try.sizeOf64 rfl rfl (f0.row (hw.now hF)) h_t27 rfl) rfl rfl rfl ?_
   refine l_val rfl rfl rfl (r_move (v := .int .i64 a1) rfl) ?_
   obtain ⟨t30, h_t30, H26⟩ := bnd_some H25; clear H25
   refine l_callV (R := fnR_func_face_Likeness_int_int a2) (r := .int .i64 t30) (v := v2) (fun w hF hS => ⟨(f2.mono (hw.now hF)), ⟨t27, a1, _, rfl, h_t30, rfl⟩⟩) rfl rfl rfl rfl ?_
   refine l_val rfl rfl rfl (r_lss rfl rfl) ?_
   refine l_nil ?_
   refine c_if (b := (decide (t30 < 0))) rfl (fun hb => ?_) (fun hb => ?_)
   ·have H27 := cnd_t hb H26; clear H26
    refine c_region ?_
    refine l_val rfl rfl rfl (r_move (v := .int .i64 (wI64 t22)) rfl) ?_
    obtain ⟨t33, h_t33, H28⟩ := bnd_some H27; clear H27
    refine l_val rfl rfl rfl (r_addG rfl rfl h_t33) ?_
    refine l_val rfl rfl rfl (r_assign (v := .int .i64 t33) rfl) ?_
    refine l_nil ?_
    refine c_close (t33, x10_2) () m2 [] (by exact ⟨rfl, rfl, rfl, rfl, rfl, rfl, trivial⟩) (by decide) (by kernel_rfl) (by exact ⟨(by subst hn2; exact H28), trivial⟩) (Nat.lt_succ_self _)
   ·have H29 := cnd_f hb H26; clear H26
    refine c_region ?_
    refine l_val rfl rfl rfl (r_move (v := .int .i64 (wI64 t22)) rfl) ?_
    refine l_val rfl rfl rfl (r_assign (v := .int .i64 (wI64 t22)) rfl) ?_
    refine l_nil ?_
    refine c_close (x9_3, (wI64 t22)) () m2 [] (by exact ⟨rfl, rfl, rfl, rfl, rfl, rfl, trivial⟩) (by decide) (by kernel_rfl) (by exact ⟨(by subst hn2; exact H29), trivial⟩) (Nat.lt_succ_self _)
  ·have H30 := cnd_f hb H21; clear H21
   refine c_exit ?_
   refine c_close x9_3 () 0 [] (by exact ⟨rfl, rfl, rfl, rfl, rfl, trivial⟩) (by decide) (by kernel_rfl) (by exact ⟨H30, trivial⟩) (Nat.lt_succ_self _)
 ·rintro x9 _ gg H16 _
  replace H16 : slices_BinarySearchFunc_face_Likeness_int_j1 a0 a1 a2 x9 = some r := H16
  refine c_tidyF [(0, v0), (1, .int .i64 a1), (2, v2), (8, .int .i64 (a0.length : Int)), (9, .int .i64 x9)] [] rfl rfl ?_
  refine c_seq ?_
  refine c_region ?_
  refine l_val rfl rfl rfl (r_move (v := .int .i64 x9) rfl) ?_
  refine l_val rfl rfl rfl (r_move (v := .int .i64 x9) rfl) ?_
  refine l_val rfl rfl rfl (r_move (v := .int .i64 (a0.length : Int)) rfl) ?_
  refine l_val rfl rfl rfl (r_lss rfl rfl) ?_
  refine l_val rfl rfl rfl (r_move (v := .bool (decide (x9 < (a0.length : Int)))) rfl) ?_
  refine split (fun hb => ?_) (fun hb => ?_)
  ·have H17 := cnd_t hb H16; clear H16
   refine l_val rfl rfl rfl (r_move (v := v2) rfl) ?_
   refine l_val rfl rfl rfl (r_move (v := v0) rfl) ?_
   refine l_val rfl rfl rfl (r_move (v := .int .i64 x9) rfl) ?_
   obtain ⟨t43, h_t43, H18⟩ := bnd_some H17; clear H17
   refine l_val rfl rfl rfl (r_indexF Try.underlying22 Try.sizeOf64 rfl rfl f0 h_t43) ?_
   refine l_read (fun w hF hS => run_loadGN (f := e_face_Likeness) (i := x9) (sz := 14) (j := 0) (vs := [.int .i64 t43.Id, .int .i64 t43.Photo, .int .i64 (t43.Vec 0), .int .i64 (t43.Vec 1), .int .i64 (t43.Vec 2), .int .i64 (t43.Vec 3), .int .i64 (t43.Vec 4), .int .i64 (t43.Vec 5), .int .i64 (t43.Vec 6), .int .i64 (t43.Vec 7), .int .i64 (t43.Vec 8), .int .i64 (t43.Vec 9), .int .i64 (t43.Vec 10), .int .i64 (t43.Vec 11)]) Try.isAgg64 Try.sizeOf64 rfl rfl (f0.row (hw.now hF)) h_t43 rfl) rfl rfl rfl ?_
   refine l_val rfl rfl rfl (r_move (v := .int .i64 a1) rfl) ?_
   obtain ⟨t46, h_t46, H19⟩ := bnd_some H18; clear H18
   refine l_callV (R := fnR_func_face_Likeness_int_int a2) (r := .int .i64 t46) (v := v2) (fun w hF hS => ⟨(f2.mono (hw.now hF)), ⟨t43, a1, _, rfl, h_t46, rfl⟩⟩) rfl rfl rfl rfl ?_
   refine l_val rfl rfl rfl (r_eql rfl rfl) ?_
   refine l_val rfl rfl rfl (r_pickT (v := .bool (decide (t46 = 0))) rfl rfl) ?_
   refine l_val rfl rfl rfl (r_assign (v := .int .i64 x9) rfl) ?_
   refine l_val rfl rfl rfl (r_assign (v := .bool (decide (t46 = 0))) rfl) ?_
   refine l_nil ?_
   refine c_ret ?_
   obtain rfl := Option.some.inj H19
   refine ret2 (v1 := .int .i64 x9) (v2 := .bool (decide (t46 = 0))) rfl rfl rfl (fin rfl)
  ·have H20 := cnd_f hb H16; clear H16
   refine l_passed rfl rfl rfl ?_
   refine l_passed rfl rfl rfl ?_
   refine l_passed rfl rfl rfl ?_
   refine l_passed rfl rfl rfl ?_
   refine l_passed rfl rfl rfl ?_
   refine l_passed rfl rfl rfl ?_
   refine l_passed rfl rfl rfl ?_
   refine l_passed rfl rfl rfl ?_
   refine l_val rfl rfl rfl (r_pickF (v := .bool false) rfl rfl) ?_
   refine l_val rfl rfl rfl (r_assign (v := .int .i64 x9) rfl) ?_
   refine l_val rfl rfl rfl (r_assign (v := .bool false) rfl) ?_
   refine l_nil ?_
   refine c_ret ?_
   obtain rfl := Option.some.inj H20
   refine ret2 (v1 := .int .i64 x9) (v2 := .bool false) rfl rfl rfl (fin rfl)
theorem k61 {a0 : T_face_Likeness} {a1 : Int} {r : Int} (H : face_at_1 a0 a1 = some r) : Ret Try.prog 61 [.agg #[.int .i64 a0.Id, .int .i64 a0.Photo, .int .i64 (a0.Vec 0), .int .i64 (a0.Vec 1), .int .i64 (a0.Vec 2), .int .i64 (a0.Vec 3), .int .i64 (a0.Vec 4), .int .i64 (a0.Vec 5), .int .i64 (a0.Vec 6), .int .i64 (a0.Vec 7), .int .i64 (a0.Vec 8), .int .i64 (a0.Vec 9), .int .i64 (a0.Vec 10), .int .i64 (a0.Vec 11)], .int .i64 a1] (.int .i64 r) := by
 refine enterRet (n := 15) Try.func61 rfl rfl rfl (fun wd => ?_)
 refine c_seq ?_
 refine c_region ?_
 refine l_box (cs := [.int .i64 a0.Id, .int .i64 a0.Photo, .int .i64 (a0.Vec 0), .int .i64 (a0.Vec 1), .int .i64 (a0.Vec 2), .int .i64 (a0.Vec 3), .int .i64 (a0.Vec 4), .int .i64 (a0.Vec 5), .int .i64 (a0.Vec 6), .int .i64 (a0.Vec 7), .int .i64 (a0.Vec 8), .int .i64 (a0.Vec 9), .int .i64 (a0.Vec 10), .int .i64 (a0.Vec 11)]) rfl rfl rfl rfl (fun b1 => ?_)
 refine l_val rfl rfl rfl (r_assign (v := .int .i64 0) rfl) ?_
 refine l_nil ?_
 refine c_seq ?_
 refine c_block ?_
 refine c_seq ?_
 refine c_region ?_
 refine l_val rfl rfl rfl (r_field Try.runUnderlying64 rfl Try.sizeOf3 rfl rfl) ?_
 refine l_load1 (i := 0) (v := .int .i64 a0.Id) Try.isAgg3 rfl rfl rfl rfl rfl ?_
 refine l_val rfl rfl rfl (r_move (v := .int .i64 a1) rfl) ?_
 refine l_val rfl rfl rfl (r_lss rfl rfl) ?_
 refine l_val rfl rfl rfl (r_assign (v := .bool (decide (a0.Id < a1))) rfl) ?_
 refine l_nil ?_
 refine c_if (b := (decide (a0.Id < a1))) rfl (fun hb => ?_) (fun hb => ?_)
 ·have H5 := cnd_t hb H; clear H
  refine c_seq ?_
  refine c_region ?_
  refine l_val rfl rfl rfl (r_assign (v := .int .i64 (-1)) rfl) ?_
  refine l_nil ?_
  refine c_ret ?_
  obtain rfl := Option.some.inj H5
  refine ret1 (v := .int .i64 (-1)) rfl rfl (fin rfl)
 ·have H6 := cnd_f hb H; clear H
  refine c_seq ?_
  refine c_region ?_
  refine l_val rfl rfl rfl (r_field Try.runUnderlying64 rfl Try.sizeOf3 rfl rfl) ?_
  refine l_load1 (i := 0) (v := .int .i64 a0.Id) Try.isAgg3 rfl rfl rfl rfl rfl ?_
  refine l_val rfl rfl rfl (r_move (v := .int .i64 a1) rfl) ?_
  refine l_val rfl rfl rfl (r_gtr rfl rfl) ?_
  refine l_val rfl rfl rfl (r_assign (v := .bool (decide (a1 < a0.Id))) rfl) ?_
  refine l_nil ?_
  refine c_if (b := (decide (a1 < a0.Id))) rfl (fun hb => ?_) (fun hb => ?_)
  ·have H7 := cnd_t hb H6; clear H6
   refine c_seq ?_
   refine c_region ?_
   refine l_val rfl rfl rfl (r_assign (v := .int .i64 1) rfl) ?_
   refine l_nil ?_
   refine c_ret ?_
   obtain rfl := Option.some.inj H7
   refine ret1 (v := .int .i64 1) rfl rfl (fin rfl)
  ·have H8 := cnd_f hb H6; clear H6
   refine c_skip ?_
   refine c_seq ?_
   refine c_region ?_
   refine l_val rfl rfl rfl (r_assign (v := .int .i64 0) rfl) ?_
   refine l_nil ?_
   refine c_ret ?_
   obtain rfl := Option.some.inj H8
   refine ret1 (v := .int .i64 0) rfl rfl (fin rfl)
theorem k27 {a0 : (List T_face_Likeness)} {v0 : Value} {a1 : Int} {r : Int × Bool} {w : World} {h : Heap} (hw : Know h w noS) (f0 : FrS h 14 v0 (a0.map e_face_Likeness)) (H : face_at a0 a1 = some r) : Does Try.prog 27 (List.toArray [v0, .int .i64 a1]) w (fun v w' => v = (.tuple #[.int .i64 r.1, .bool r.2]) ∧ Grow w w') := by
 refine enter (n := 11) Try.func27 rfl rfl rfl noS [] (Sat.nil _ _) ?_
 refine c_seq ?_
 refine c_region ?_
 refine l_val rfl rfl rfl (r_assign (v := .int .i64 0) rfl) ?_
 refine l_val rfl rfl rfl (r_assign (v := .bool false) rfl) ?_
 refine l_nil ?_
 refine c_seq ?_
 refine c_region ?_
 refine l_val rfl rfl rfl (r_move (v := v0) rfl) ?_
 refine l_val rfl rfl rfl (r_move (v := .int .i64 a1) rfl) ?_
 obtain ⟨t8, h_t8, H2⟩ := bnd_some H; clear H
 refine l_callG (fun w hF hS => k60 (know_all w) (f0.mono (hw.now hF)) (FnH.mk ⟨61, #[], #[], rfl, Try.call61, fun args2 post2 w2 hk2 hR2 => by obtain ⟨a0_, a1_, r_, rfl, H_, rfl⟩ := hR2; exact k61 H_ w2⟩) h_t8) Try.call60 rfl rfl rfl ?_
 refine l_val rfl rfl rfl (r_extract (v := .int .i64 t8.1) rfl rfl) ?_
 refine l_val rfl rfl rfl (r_extract (v := .bool t8.2) rfl rfl) ?_
 refine l_val rfl rfl rfl (r_assign (v := .int .i64 t8.1) rfl) ?_
 refine l_val rfl rfl rfl (r_assign (v := .bool t8.2) rfl) ?_
 refine l_nil ?_
 refine c_ret ?_
 obtain rfl := Option.some.inj H2
 refine ret2 (v1 := .int .i64 t8.1) (v2 := .bool t8.2) rfl rfl rfl (fin rfl)
theorem k21 {a0 : Int} {a1 : Int} {a2 : Int} {r : Bool} (H : face_outside a0 a1 a2 = some r) : Ret Try.prog 21 [.int .i64 a0, .int .i64 a1, .int .i64 a2] (.bool r) := by
 refine enterRet (n := 15) Try.func21 rfl rfl rfl (fun wd => ?_)
 refine c_seq ?_
 refine c_region ?_
 refine l_val rfl rfl rfl (r_assign (v := .bool false) rfl) ?_
 refine l_nil ?_
 refine c_seq ?_
 refine c_region ?_
 refine l_val rfl rfl rfl (r_move (v := .int .i64 a0) rfl) ?_
 refine l_val rfl rfl rfl (r_move (v := .int .i64 a1) rfl) ?_
 refine l_val rfl rfl rfl (r_lss rfl rfl) ?_
 refine l_val rfl rfl rfl (r_move (v := .bool (decide (a0 < a1))) rfl) ?_
 refine split (fun hb => ?_) (fun hb => ?_)
 ·have H3 := cnd_t hb H; clear H
  refine l_passed rfl rfl rfl ?_
  refine l_passed rfl rfl rfl ?_
  refine l_passed rfl rfl rfl ?_
  refine l_val rfl rfl rfl (r_pickT (v := .bool true) rfl rfl) ?_
  refine l_val rfl rfl rfl (r_assign (v := .bool true) rfl) ?_
  refine l_nil ?_
  refine c_ret ?_
  obtain rfl := Option.some.inj H3
  refine ret1 (v := .bool true) rfl rfl (fin rfl)
 ·have H4 := cnd_f hb H; clear H
  refine l_val rfl rfl rfl (r_move (v := .int .i64 a0) rfl) ?_
  refine l_val rfl rfl rfl (r_move (v := .int .i64 a2) rfl) ?_
  refine l_val rfl rfl rfl (r_gtr rfl rfl) ?_
  refine l_val rfl rfl rfl (r_pickF (v := .bool (decide (a2 < a0))) rfl rfl) ?_
  refine l_val rfl rfl rfl (r_assign (v := .bool (decide (a2 < a0))) rfl) ?_
  refine l_nil ?_
  refine c_ret ?_
  obtain rfl := Option.some.inj H4
  refine ret1 (v := .bool (decide (a2 < a0))) rfl rfl (fin rfl)
theorem k58 {a0 : (Nat → Int)} {r : Int} (H : face_CheckVec a0 = some r) : Ret Try.prog 58 [.agg #[.int .i64 (a0 0), .int .i64 (a0 1), .int .i64 (a0 2), .int .i64 (a0 3), .int .i64 (a0 4), .int .i64 (a0 5), .int .i64 (a0 6), .int .i64 (a0 7), .int .i64 (a0 8), .int .i64 (a0 9), .int .i64 (a0 10), .int .i64 (a0 11)]] (.int .i64 r) := by
 refine enterRet (n := 12) Try.func58 rfl rfl rfl (fun wd => ?_)
 refine c_seq ?_
 refine c_region ?_
 refine l_box (cs := [.int .i64 (a0 0), .int .i64 (a0 1), .int .i64 (a0 2), .int .i64 (a0 3), .int .i64 (a0 4), .int .i64 (a0 5), .int .i64 (a0 6), .int .i64 (a0 7), .int .i64 (a0 8), .int .i64 (a0 9), .int .i64 (a0 10), .int .i64 (a0 11)]) rfl rfl rfl rfl (fun b1 => ?_)
 refine l_val rfl rfl rfl (r_assign (v := .int .i64 0) rfl) ?_
 refine l_nil ?_
 refine c_seq ?_
 refine c_seq ?_
 refine c_region ?_
 refine l_loadN (i := 0) (vs := [.int .i64 (a0 0), .int .i64 (a0 1), .int .i64 (a0 2), .int .i64 (a0 3), .int .i64 (a0 4), .int .i64 (a0 5), .int .i64 (a0 6), .int .i64 (a0 7), .int .i64 (a0 8), .int .i64 (a0 9), .int .i64 (a0 10), .int .i64 (a0 11)]) Try.isAgg52 Try.sizeOf52 rfl rfl rfl rfl rfl ?_
 refine l_val rfl rfl rfl (r_move (v := .int .i64 0) rfl) ?_
 refine l_nil ?_
 refine c_block ?_
 refine c_sel [] [] rfl (by decide) ?_
 refine c_fix (σ := Int) (τ := Unit) (fun next1 s => face_CheckVec_l1 a0 next1 s) (fun s t => [(5, .agg #[.int .i64 (a0 0), .int .i64 (a0 1), .int .i64 (a0 2), .int .i64 (a0 3), .int .i64 (a0 4), .int .i64 (a0 5), .int .i64 (a0 6), .int .i64 (a0 7), .int .i64 (a0 8), .int .i64 (a0 9), .int .i64 (a0 10), .int .i64 (a0 11)]), (6, .int .i64 s)]) (fun s t => []) (fun s t => True) 0 () [] H (by exact trivial) (by exact ⟨rfl, rfl, trivial⟩) (by decide) rfl ?_
 rintro x6_2 _ m1 gg H9 _
 clear H
 replace H9 : face_CheckVec_l1 a0 (it (fun next1 s => face_CheckVec_l1 a0 next1 s) m1) x6_2 = some r := H9
 generalize hn1 : it (fun next1 s => face_CheckVec_l1 a0 next1 s) m1 = next1 at H9
 refine c_tidyF [(5, .agg #[.int .i64 (a0 0), .int .i64 (a0 1), .int .i64 (a0 2), .int .i64 (a0 3), .int .i64 (a0 4), .int .i64 (a0 5), .int .i64 (a0 6), .int .i64 (a0 7), .int .i64 (a0 8), .int .i64 (a0 9), .int .i64 (a0 10), .int .i64 (a0 11)]), (6, .int .i64 x6_2)] [] rfl rfl ?_
 refine c_seq ?_
 refine c_region ?_
 refine l_val rfl rfl rfl (r_lss rfl rfl) ?_
 refine l_nil ?_
 refine c_seq ?_
 refine c_if (b := (decide (x6_2 < 12))) rfl (fun hb => ?_) (fun hb => ?_)
 ·have H10 := cnd_t hb H9; clear H9
  refine c_skip ?_
  refine c_seq ?_
  refine c_block ?_
  refine c_seq ?_
  refine c_region ?_
  obtain ⟨k8, h_k8, H11⟩ := bnd_some H10; clear H10
  refine l_val rfl rfl rfl (r_indexAG (f := fun j_ => .int .i64 (a0 j_)) Try.runUnderlying52 Try.isAgg3 Try.sizeOf3 rfl rfl rfl h_k8) ?_
  refine l_val rfl rfl rfl (r_assign (v := .int .i64 (a0 k8)) rfl) ?_
  refine l_nil ?_
  refine c_seq ?_
  refine c_region ?_
  refine l_val rfl rfl rfl (r_move (v := .int .i64 (a0 k8)) rfl) ?_
  obtain ⟨t10, h_t10, H12⟩ := bnd_some H11; clear H11
  refine l_call (k21 h_t10) Try.call21 rfl rfl rfl ?_
  refine l_nil ?_
  refine c_if (b := t10) rfl (fun hb => ?_) (fun hb => ?_)
  ·have H13 := cnd_t hb H12; clear H12
   refine c_seq ?_
   refine c_region ?_
   refine l_val rfl rfl rfl (r_assign (v := .int .i64 2) rfl) ?_
   refine l_nil ?_
   refine c_ret ?_
   obtain rfl := Option.some.inj H13
   refine ret1 (v := .int .i64 2) rfl rfl (fin rfl)
  ·have H14 := cnd_f hb H12; clear H12
   refine c_skip ?_
   refine c_region ?_
   obtain ⟨t11, h_t11, H15⟩ := bnd_some H14; clear H14
   refine l_val rfl rfl rfl (r_addG rfl rfl h_t11) ?_
   refine l_val rfl rfl rfl (r_move (v := .int .i64 t11) rfl) ?_
   refine l_nil ?_
   refine c_close t11 () m1 [] (by exact ⟨rfl, rfl, trivial⟩) (by decide) (by kernel_rfl) (by exact ⟨(by subst hn1; exact H15), trivial⟩) (Nat.lt_succ_self _)
 ·have H16 := cnd_f hb H9; clear H9
  refine c_exit ?_
  refine c_seq ?_
  refine c_region ?_
  refine l_val rfl rfl rfl (r_assign (v := .int .i64 0) rfl) ?_
  refine l_nil ?_
  refine c_ret ?_
  obtain rfl := Option.some.inj H16
  refine ret1 (v := .int .i64 0) rfl rfl (fin rfl)
theorem k25 {a0 : (List T_face_Likeness)} {v0 : Value} {r : Int} {w : World} {h : Heap} (hw : Know h w noS) (f0 : FrS h 14 v0 (a0.map e_face_Likeness)) (H : face_Check a0 = some r) : Does Try.prog 25 (List.toArray [v0]) w (fun v w' => v = (.int .i64 r) ∧ Grow w w') := by
 refine enter (n := 44) Try.func25 rfl rfl rfl noS [] (Sat.nil _ _) ?_
 refine c_seq ?_
 refine c_region ?_
 refine l_val rfl rfl rfl (r_assign (v := .int .i64 0) rfl) ?_
 refine l_nil ?_
 refine c_seq ?_
 refine c_seq ?_
 refine c_region ?_
 refine l_val rfl rfl rfl (r_move (v := v0) rfl) ?_
 refine l_val rfl rfl rfl (r_lenF Try.underlying22 rfl f0 rfl) ?_
 refine l_val rfl rfl rfl (r_gtr rfl rfl) ?_
 refine l_nil ?_
 refine c_if (b := (decide (300 < (a0.length : Int)))) rfl (fun hb => ?_) (fun hb => ?_)
 ·have H24 := cnd_t hb H; clear H
  refine c_seq ?_
  refine c_region ?_
  refine l_val rfl rfl rfl (r_assign (v := .int .i64 4) rfl) ?_
  refine l_nil ?_
  refine c_ret ?_
  obtain rfl := Option.some.inj H24
  refine ret1 (v := .int .i64 4) rfl rfl (fin rfl)
 ·have H25 := cnd_f hb H; clear H
  refine c_skip ?_
  refine c_seq ?_
  refine c_seq ?_
  refine c_region ?_
  refine l_val rfl rfl rfl (r_move (v := v0) rfl) ?_
  refine l_val rfl rfl rfl (r_lenF Try.underlying22 rfl f0 rfl) ?_
  refine l_val rfl rfl rfl (r_move (v := .int .i64 0) rfl) ?_
  refine l_nil ?_
  refine c_block ?_
  refine c_fix (σ := Int) (τ := Unit) (fun next1 s => face_Check_l1 a0 next1 s) (fun s t => [(0, v0), (9, v0), (10, .int .i64 (a0.length : Int)), (11, .int .i64 s)]) (fun s t => []) (fun s t => True) 0 () [] H25 (by exact trivial) (by exact ⟨rfl, rfl, rfl, rfl, trivial⟩) (by decide) rfl ?_
  rintro x11_2 _ m1 gg H26 _
  clear H25
  replace H26 : face_Check_l1 a0 (it (fun next1 s => face_Check_l1 a0 next1 s) m1) x11_2 = some r := H26
  generalize hn1 : it (fun next1 s => face_Check_l1 a0 next1 s) m1 = next1 at H26
  refine c_tidyF [(0, v0), (9, v0), (10, .int .i64 (a0.length : Int)), (11, .int .i64 x11_2)] [] rfl rfl ?_
  refine c_seq ?_
  refine c_region ?_
  refine l_val rfl rfl rfl (r_lss rfl rfl) ?_
  refine l_nil ?_
  refine c_seq ?_
  refine c_if (b := (decide (x11_2 < (a0.length : Int)))) rfl (fun hb => ?_) (fun hb => ?_)
  ·have H27 := cnd_t hb H26; clear H26
   refine c_skip ?_
   refine c_seq ?_
   refine c_block ?_
   refine c_seq ?_
   refine c_region ?_
   refine l_val rfl rfl rfl (r_move (v := .int .i64 x11_2) rfl) ?_
   obtain ⟨t14, h_t14, H28⟩ := bnd_some H27; clear H27
   refine l_val rfl rfl rfl (r_indexF Try.underlying22 Try.sizeOf64 rfl rfl f0 h_t14) ?_
   refine l_read (fun w hF hS => run_loadGN (f := e_face_Likeness) (i := x11_2) (sz := 14) (j := 0) (vs := [.int .i64 t14.Id, .int .i64 t14.Photo, .int .i64 (t14.Vec 0), .int .i64 (t14.Vec 1), .int .i64 (t14.Vec 2), .int .i64 (t14.Vec 3), .int .i64 (t14.Vec 4), .int .i64 (t14.Vec 5), .int .i64 (t14.Vec 6), .int .i64 (t14.Vec 7), .int .i64 (t14.Vec 8), .int .i64 (t14.Vec 9), .int .i64 (t14.Vec 10), .int .i64 (t14.Vec 11)]) Try.isAgg64 Try.sizeOf64 rfl rfl (f0.row (hw.now hF)) h_t14 rfl) rfl rfl rfl ?_
   refine l_alloc (cs := [.int .i64 0, .int .i64 0, .int .i64 0, .int .i64 0, .int .i64 0, .int .i64 0, .int .i64 0, .int .i64 0, .int .i64 0, .int .i64 0, .int .i64 0, .int .i64 0, .int .i64 0, .int .i64 0]) Try.zeroValue64 rfl rfl rfl (fun b1 => ?_)
   refine l_val rfl rfl rfl (r_assign (v := .int .i64 x11_2) rfl) ?_
   refine l_store (i := 0) (vs := [.int .i64 t14.Id, .int .i64 t14.Photo, .int .i64 (t14.Vec 0), .int .i64 (t14.Vec 1), .int .i64 (t14.Vec 2), .int .i64 (t14.Vec 3), .int .i64 (t14.Vec 4), .int .i64 (t14.Vec 5), .int .i64 (t14.Vec 6), .int .i64 (t14.Vec 7), .int .i64 (t14.Vec 8), .int .i64 (t14.Vec 9), .int .i64 (t14.Vec 10), .int .i64 (t14.Vec 11)]) (cs' := [.int .i64 t14.Id, .int .i64 t14.Photo, .int .i64 (t14.Vec 0), .int .i64 (t14.Vec 1), .int .i64 (t14.Vec 2), .int .i64 (t14.Vec 3), .int .i64 (t14.Vec 4), .int .i64 (t14.Vec 5), .int .i64 (t14.Vec 6), .int .i64 (t14.Vec 7), .int .i64 (t14.Vec 8), .int .i64 (t14.Vec 9), .int .i64 (t14.Vec 10), .int .i64 (t14.Vec 11)]) Try.sizeOf64 rfl rfl rfl rfl rfl rfl rfl rfl rfl ?_
   refine l_nil ?_
   refine c_seq ?_
   refine c_seq ?_
   refine c_region ?_
   refine l_val rfl rfl rfl (r_field Try.runUnderlying64 rfl Try.sizeOf3 rfl rfl) ?_
   refine l_load1 (i := 0) (v := .int .i64 t14.Id) Try.isAgg3 rfl rfl rfl rfl rfl ?_
   obtain ⟨t18, h_t18, H29⟩ := bnd_some H28; clear H28
   refine l_call (k21 h_t18) Try.call21 rfl rfl rfl ?_
   refine l_val rfl rfl rfl (r_move (v := .bool t18) rfl) ?_
   refine split (fun hb => ?_) (fun hb => ?_)
   ·have H30 := cnd_t hb H29; clear H29
    refine l_passed rfl rfl rfl ?_
    refine l_passed rfl rfl rfl ?_
    refine l_passed rfl rfl rfl ?_
    refine l_val rfl rfl rfl (r_pickT (v := .bool true) rfl rfl) ?_
    refine l_nil ?_
    refine c_true rfl ?_
    refine c_seq ?_
    refine c_region ?_
    refine l_val rfl rfl rfl (r_assign (v := .int .i64 2) rfl) ?_
    refine l_nil ?_
    refine c_ret ?_
    obtain rfl := Option.some.inj H30
    refine ret1 (v := .int .i64 2) rfl rfl (fin rfl)
   ·have H31 := cnd_f hb H29; clear H29
    refine l_val rfl rfl rfl (r_field Try.runUnderlying64 rfl Try.sizeOf3 rfl rfl) ?_
    refine l_load1 (i := 0) (v := .int .i64 t14.Photo) Try.isAgg3 rfl rfl rfl rfl rfl ?_
    obtain ⟨t22, h_t22, H32⟩ := bnd_some H31; clear H31
    refine l_call (k21 h_t22) Try.call21 rfl rfl rfl ?_
    refine l_val rfl rfl rfl (r_pickF (v := .bool t22) rfl rfl) ?_
    refine l_nil ?_
    refine c_if (b := t22) rfl (fun hb => ?_) (fun hb => ?_)
    ·have H33 := cnd_t hb H32; clear H32
     refine c_seq ?_
     refine c_region ?_
     refine l_val rfl rfl rfl (r_assign (v := .int .i64 2) rfl) ?_
     refine l_nil ?_
     refine c_ret ?_
     obtain rfl := Option.some.inj H33
     refine ret1 (v := .int .i64 2) rfl rfl (fin rfl)
    ·have H34 := cnd_f hb H32; clear H32
     refine c_skip ?_
     refine c_meet (r := r) (σ := Unit) (τ := Unit) (fun s => face_Check_j2 x11_2 next1 t14) (fun s t => [(0, v0), (4, .pointer (some ⟨b1, 0, none⟩)), (9, v0), (10, .int .i64 (a0.length : Int)), (11, .int .i64 x11_2), (20, .pointer (some ⟨b1, 1, none⟩)), (21, .int .i64 t14.Photo), (22, .bool t22)]) (fun s t => [cellsC b1 [.int .i64 t14.Id, .int .i64 t14.Photo, .int .i64 (t14.Vec 0), .int .i64 (t14.Vec 1), .int .i64 (t14.Vec 2), .int .i64 (t14.Vec 3), .int .i64 (t14.Vec 4), .int .i64 (t14.Vec 5), .int .i64 (t14.Vec 6), .int .i64 (t14.Vec 7), .int .i64 (t14.Vec 8), .int .i64 (t14.Vec 9), .int .i64 (t14.Vec 10), .int .i64 (t14.Vec 11)] 64]) (fun s t => True) ?_ ?_
     ·refine c_seq ?_
      exact c_regionD (Kd.p :: Kd.p :: Kd.p :: Kd.p :: Kd.d [0] _ :: Kd.p :: Kd.p :: Kd.p :: Kd.p :: Kd.p :: Kd.d [] _ :: Kd.p :: Kd.p :: []) 0 mixed (by
       refine d_val rfl rfl (r_move (v := .int .i64 x11_2) rfl) ?_
       refine d_val rfl rfl (r_gtr rfl rfl) ?_
       refine d_val rfl rfl (r_move (v := .bool (decide (0 < x11_2))) rfl) ?_
       refine splitS (fun hb => ?_) (fun hb => ?_)
       ·have H40 := cnd_t hb H34
        refine d_val rfl rfl (r_field Try.runUnderlying64 rfl Try.sizeOf3 rfl rfl) ?_
        refine d_load1 (i := 0) (v := .int .i64 t14.Id) Try.isAgg3 rfl rfl rfl rfl ?_
        refine d_val rfl rfl (r_move (v := v0) rfl) ?_
        refine d_val rfl rfl (r_move (v := .int .i64 x11_2) rfl) ?_
        have h_t31 := bnd_val H40
        have H41 := bnd_rest H40
        refine d_val rfl rfl (r_subG rfl rfl h_t31) ?_
        have h_t32 := bnd_val H41
        have H42 := bnd_rest H41
        refine d_val rfl rfl (r_indexF Try.underlying22 Try.sizeOf64 rfl rfl f0 h_t32) ?_
        refine d_val rfl rfl (r_fieldP Try.runUnderlying64 rfl Try.sizeOf3 rfl rfl (some_of_at f0 h_t32)) ?_
        refine d_read (fun w hF => run_loadG1 (f := e_face_Likeness) (i := (val (gI (x11_2 - 1)))) (sz := 14) (j := 0) (v := .int .i64 (val (gAt a0 (val (gI (x11_2 - 1))))).Id) Try.isAgg3 rfl rfl (f0.row (hw.now hF)) h_t32 rfl) rfl rfl ?_
        refine d_val rfl rfl (r_leq rfl rfl) ?_
        refine d_val rfl rfl (r_pickT (v := .bool (decide (t14.Id ≤ (val (gAt a0 (val (gI (x11_2 - 1))))).Id))) rfl rfl) ?_
        refine d_nil ?_
        refine c_if (b := (decide (t14.Id ≤ (val (gAt a0 (val (gI (x11_2 - 1))))).Id))) rfl (fun hb => ?_) (fun hb => ?_)
        ·have H43 := cnd_t hb H42; clear H42
         refine c_seq ?_
         refine c_region ?_
         refine l_val rfl rfl rfl (r_assign (v := .int .i64 5) rfl) ?_
         refine l_nil ?_
         refine c_ret ?_
         obtain rfl := Option.some.inj H43
         refine ret1 (v := .int .i64 5) rfl rfl (fin rfl)
        ·have H44 := cnd_f hb H42; clear H42
         refine c_skip ?_
         refine c_close () () 0 [0] (by exact ⟨rfl, rfl, rfl, rfl, rfl, rfl, rfl, rfl, trivial⟩) (by decide) (by kernel_rfl) (by exact ⟨H44, trivial⟩) (Nat.lt_succ_self _)
       ·have H45 := cnd_f hb H34
        refine d_pass rfl rfl ?_
        refine d_pass rfl rfl ?_
        refine d_pass rfl rfl ?_
        refine d_pass rfl rfl ?_
        refine d_pass rfl rfl ?_
        refine d_pass rfl rfl ?_
        refine d_pass rfl rfl ?_
        refine d_pass rfl rfl ?_
        refine d_pass rfl rfl ?_
        refine d_val rfl rfl (r_pickF (v := .bool false) rfl rfl) ?_
        refine d_nil ?_
        refine c_false rfl ?_
        refine c_skip ?_
        refine c_close () () 0 [0] (by exact ⟨rfl, rfl, rfl, rfl, rfl, rfl, rfl, rfl, trivial⟩) (by decide) (by kernel_rfl) (by exact ⟨H45, trivial⟩) (Nat.lt_succ_self _)
       ) (by kernel_rfl)
     ·rintro _ _ gg H35 _
      replace H35 : face_Check_j2 x11_2 next1 t14 = some r := H35
      refine c_tidyF [(0, v0), (4, .pointer (some ⟨b1, 0, none⟩)), (9, v0), (10, .int .i64 (a0.length : Int)), (11, .int .i64 x11_2), (20, .pointer (some ⟨b1, 1, none⟩)), (21, .int .i64 t14.Photo), (22, .bool t22)] [cellsC b1 [.int .i64 t14.Id, .int .i64 t14.Photo, .int .i64 (t14.Vec 0), .int .i64 (t14.Vec 1), .int .i64 (t14.Vec 2), .int .i64 (t14.Vec 3), .int .i64 (t14.Vec 4), .int .i64 (t14.Vec 5), .int .i64 (t14.Vec 6), .int .i64 (t14.Vec 7), .int .i64 (t14.Vec 8), .int .i64 (t14.Vec 9), .int .i64 (t14.Vec 10), .int .i64 (t14.Vec 11)] 64] rfl rfl ?_
      refine c_seq ?_
      refine c_region ?_
      refine l_val rfl rfl rfl (r_field Try.runUnderlying64 rfl Try.sizeOf52 rfl rfl) ?_
      refine l_loadN (i := 0) (vs := [.int .i64 (t14.Vec 0), .int .i64 (t14.Vec 1), .int .i64 (t14.Vec 2), .int .i64 (t14.Vec 3), .int .i64 (t14.Vec 4), .int .i64 (t14.Vec 5), .int .i64 (t14.Vec 6), .int .i64 (t14.Vec 7), .int .i64 (t14.Vec 8), .int .i64 (t14.Vec 9), .int .i64 (t14.Vec 10), .int .i64 (t14.Vec 11)]) Try.isAgg52 Try.sizeOf52 rfl rfl rfl rfl rfl ?_
      obtain ⟨t39, h_t39, H36⟩ := bnd_some H35; clear H35
      refine l_call (k58 h_t39) Try.call58 rfl rfl rfl ?_
      refine l_val rfl rfl rfl (r_assign (v := .int .i64 t39) rfl) ?_
      refine l_nil ?_
      refine c_seq ?_
      refine c_region ?_
      refine l_val rfl rfl rfl (r_move (v := .int .i64 t39) rfl) ?_
      refine l_val rfl rfl rfl (r_neq rfl rfl) ?_
      refine l_nil ?_
      refine c_if (b := (decide (t39 ≠ 0))) rfl (fun hb => ?_) (fun hb => ?_)
      ·have H37 := cnd_t hb H36; clear H36
       refine c_seq ?_
       refine c_region ?_
       refine l_val rfl rfl rfl (r_move (v := .int .i64 t39) rfl) ?_
       refine l_val rfl rfl rfl (r_assign (v := .int .i64 t39) rfl) ?_
       refine l_nil ?_
       refine c_ret ?_
       obtain rfl := Option.some.inj H37
       refine ret1 (v := .int .i64 t39) rfl rfl (fin rfl)
      ·have H38 := cnd_f hb H36; clear H36
       refine c_skip ?_
       refine c_region ?_
       obtain ⟨t43, h_t43, H39⟩ := bnd_some H38; clear H38
       refine l_val rfl rfl rfl (r_addG rfl rfl h_t43) ?_
       refine l_val rfl rfl rfl (r_move (v := .int .i64 t43) rfl) ?_
       refine l_nil ?_
       refine c_close t43 () m1 [] (by exact ⟨rfl, rfl, rfl, rfl, trivial⟩) (by decide) (by kernel_rfl) (by exact ⟨(by subst hn1; exact H39), trivial⟩) (Nat.lt_succ_self _)
  ·have H46 := cnd_f hb H26; clear H26
   refine c_exit ?_
   refine c_seq ?_
   refine c_region ?_
   refine l_val rfl rfl rfl (r_assign (v := .int .i64 0) rfl) ?_
   refine l_nil ?_
   refine c_ret ?_
   obtain rfl := Option.some.inj H46
   refine ret1 (v := .int .i64 0) rfl rfl (fin rfl)
theorem k23 {a0 : (List T_face_Likeness)} {v0 : Value} {a1 : (List T_face_Bond)} {v1 : Value} {r : T_face_bonds} {w : World} {h : Heap} (hw : Know h w noS) (f0 : FrS h 14 v0 (a0.map e_face_Likeness)) (f1 : FrS h 3 v1 (a1.map e_face_Bond)) (H : face_bondsOf a0 a1 = some r) : Does Try.prog 23 (List.toArray [v0, v1]) w (fun v w' => ∃ x : (Option Addr × Nat) × (Option Addr × Nat), v = (.agg #[.slice x.1.1 r.musts_.length x.1.2, .slice x.2.1 r.nots_.length x.2.2]) ∧ Turn w w' noS (bothC (rowV 36 2 (.slice x.1.1 r.musts_.length x.1.2) r.musts_.length (r.musts_.map e_2_int)) (rowV 36 2 (.slice x.2.1 r.nots_.length x.2.2) r.nots_.length (r.nots_.map e_2_int)))) := by
 refine enter (n := 52) Try.func23 rfl rfl rfl noS [] (Sat.nil _ _) ?_
 refine c_seq ?_
 refine c_region ?_
 refine l_alloc (cs := [.slice none 0 0, .slice none 0 0]) Try.zeroValue57 rfl rfl rfl (fun b5 => ?_)
 refine l_nil ?_
 refine c_seq ?_
 refine c_region ?_
 refine l_alloc (cs := [.slice none 0 0, .slice none 0 0]) Try.zeroValue57 rfl rfl rfl (fun b6 => ?_)
 refine l_nil ?_
 refine c_meet (r := r) (σ := (List (Nat → Int)) × (List (Nat → Int))) (τ := (Option Addr × Nat) × (Option Addr × Nat)) (fun s => face_bondsOf_j1 s.1 s.2) (fun s t => [(4, .pointer (some ⟨b5, 0, none⟩)), (5, .pointer (some ⟨b6, 0, none⟩))]) (fun s t => [cellsC b5 [.slice none 0 0, .slice none 0 0] 57, cellsC b6 [.slice t.1.1 s.1.length t.1.2, .slice t.2.1 s.2.length t.2.2] 57, rowV 36 2 (.slice t.1.1 s.1.length t.1.2) s.1.length (s.1.map e_2_int), rowV 36 2 (.slice t.2.1 s.2.length t.2.2) s.2.length (s.2.map e_2_int)]) (fun s t => True) ?_ ?_
 ·refine c_seq ?_
  refine c_region ?_
  refine l_val rfl rfl rfl (r_move (v := v1) rfl) ?_
  refine l_val rfl rfl rfl (r_lenF Try.underlying23 rfl f1 rfl) ?_
  refine l_val rfl rfl rfl (r_move (v := .int .i64 0) rfl) ?_
  refine l_nil ?_
  refine c_block ?_
  refine c_nilRow 36 2 ?_
  refine c_nilRow 36 2 ?_
  refine c_fix (σ := Int × (List (Nat → Int)) × (List (Nat → Int))) (τ := (Option Addr × Nat) × (Option Addr × Nat)) (fun next2 s => face_bondsOf_l2 a0 a1 next2 s.1 s.2.1 s.2.2) (fun s t => [(0, v0), (4, .pointer (some ⟨b5, 0, none⟩)), (5, .pointer (some ⟨b6, 0, none⟩)), (12, v1), (13, .int .i64 (a1.length : Int)), (14, .int .i64 s.1)]) (fun s t => [cellsC b5 [.slice none 0 0, .slice none 0 0] 57, cellsC b6 [.slice t.1.1 s.2.1.length t.1.2, .slice t.2.1 s.2.2.length t.2.2] 57, rowV 36 2 (.slice t.1.1 s.2.1.length t.1.2) s.2.1.length (s.2.1.map e_2_int), rowV 36 2 (.slice t.2.1 s.2.2.length t.2.2) s.2.2.length (s.2.2.map e_2_int)]) (fun s t => True) (0, ([] : List (Nat → Int)), ([] : List (Nat → Int))) (((none, 0) : Option Addr × Nat), ((none, 0) : Option Addr × Nat)) [0, 1, 2, 3] H (by exact trivial) (by exact ⟨rfl, rfl, rfl, rfl, rfl, rfl, trivial⟩) (by decide) rfl ?_
  rintro ⟨x14_2, l_5, l_6⟩ ⟨p_3, p_4⟩ m2 gg H15 _
  clear H
  replace H15 : face_bondsOf_l2 a0 a1 (it (fun next2 s => face_bondsOf_l2 a0 a1 next2 s.1 s.2.1 s.2.2) m2) x14_2 l_5 l_6 = some r := H15
  generalize hn2 : it (fun next2 s => face_bondsOf_l2 a0 a1 next2 s.1 s.2.1 s.2.2) m2 = next2 at H15
  refine c_tidyF [(0, v0), (4, .pointer (some ⟨b5, 0, none⟩)), (5, .pointer (some ⟨b6, 0, none⟩)), (12, v1), (13, .int .i64 (a1.length : Int)), (14, .int .i64 x14_2)] [cellsC b5 [.slice none 0 0, .slice none 0 0] 57, cellsC b6 [.slice p_3.1 l_5.length p_3.2, .slice p_4.1 l_6.length p_4.2] 57, rowV 36 2 (.slice p_3.1 l_5.length p_3.2) l_5.length (l_5.map e_2_int), rowV 36 2 (.slice p_4.1 l_6.length p_4.2) l_6.length (l_6.map e_2_int)] rfl rfl ?_
  refine c_seq ?_
  refine c_sel [0, 1, 2, 3] [cellsC b5 [.slice none 0 0, .slice none 0 0] 57, cellsC b6 [.slice p_3.1 l_5.length p_3.2, .slice p_4.1 l_6.length p_4.2] 57, rowV 36 2 (.slice p_3.1 l_5.length p_3.2) l_5.length (l_5.map e_2_int), rowV 36 2 (.slice p_4.1 l_6.length p_4.2) l_6.length (l_6.map e_2_int)] rfl (by decide) ?_
  refine c_region ?_
  refine l_val rfl rfl rfl (r_lss rfl rfl) ?_
  refine l_nil ?_
  refine c_seq ?_
  refine c_if (b := (decide (x14_2 < (a1.length : Int)))) rfl (fun hb => ?_) (fun hb => ?_)
  ·have H16 := cnd_t hb H15; clear H15
   refine c_skip ?_
   refine c_meet (r := r) (σ := (List (Nat → Int)) × (List (Nat → Int))) (τ := (Option Addr × Nat) × (Option Addr × Nat)) (fun s => face_bondsOf_j3 x14_2 next2 s.1 s.2) (fun s t => [(0, v0), (4, .pointer (some ⟨b5, 0, none⟩)), (5, .pointer (some ⟨b6, 0, none⟩)), (12, v1), (13, .int .i64 (a1.length : Int)), (14, .int .i64 x14_2)]) (fun s t => [cellsC b5 [.slice none 0 0, .slice none 0 0] 57, cellsC b6 [.slice t.1.1 s.1.length t.1.2, .slice t.2.1 s.2.length t.2.2] 57, rowV 36 2 (.slice t.1.1 s.1.length t.1.2) s.1.length (s.1.map e_2_int), rowV 36 2 (.slice t.2.1 s.2.length t.2.2) s.2.length (s.2.map e_2_int)]) (fun s t => True) ?_ ?_
   ·refine c_block ?_
    refine c_seq ?_
    refine c_region ?_
    obtain ⟨t16, h_t16, H19⟩ := bnd_some H16; clear H16
    refine l_val rfl rfl rfl (r_indexF Try.underlying23 Try.sizeOf35 rfl rfl f1 h_t16) ?_
    refine l_read (fun w hF hS => run_loadGN (f := e_face_Bond) (i := x14_2) (sz := 3) (j := 0) (vs := [.int .i64 t16.A, .int .i64 t16.B, .bool t16.Must]) Try.isAgg35 Try.sizeOf35 rfl rfl (f1.row (hw.now hF)) h_t16 rfl) rfl rfl rfl ?_
    refine l_alloc (cs := [.int .i64 0, .int .i64 0, .bool false]) Try.zeroValue35 rfl rfl rfl (fun b7 => ?_)
    refine l_store (i := 4) (vs := [.int .i64 t16.A, .int .i64 t16.B, .bool t16.Must]) (cs' := [.int .i64 t16.A, .int .i64 t16.B, .bool t16.Must]) Try.sizeOf35 rfl rfl rfl rfl rfl rfl rfl rfl rfl ?_
    refine l_nil ?_
    refine c_seq ?_
    refine c_region ?_
    refine l_val rfl rfl rfl (r_move (v := v0) rfl) ?_
    refine l_val rfl rfl rfl (r_field Try.runUnderlying35 rfl Try.sizeOf3 rfl rfl) ?_
    refine l_load1 (i := 4) (v := .int .i64 t16.A) Try.isAgg3 rfl rfl rfl rfl rfl ?_
    obtain ⟨t22, h_t22, H20⟩ := bnd_some H19; clear H19
    refine l_callG (fun w hF hS => k27 (know_all w) (f0.mono (hw.now hF)) h_t22) Try.call27 rfl rfl rfl ?_
    refine l_val rfl rfl rfl (r_move (v := .tuple #[.int .i64 t22.1, .bool t22.2]) rfl) ?_
    refine l_val rfl rfl rfl (r_extract (v := .int .i64 t22.1) rfl rfl) ?_
    refine l_val rfl rfl rfl (r_extract (v := .bool t22.2) rfl rfl) ?_
    refine l_val rfl rfl rfl (r_assign (v := .int .i64 t22.1) rfl) ?_
    refine l_val rfl rfl rfl (r_assign (v := .bool t22.2) rfl) ?_
    refine l_nil ?_
    refine c_seq ?_
    refine c_region ?_
    refine l_val rfl rfl rfl (r_move (v := v0) rfl) ?_
    refine l_val rfl rfl rfl (r_field Try.runUnderlying35 rfl Try.sizeOf3 rfl rfl) ?_
    refine l_load1 (i := 4) (v := .int .i64 t16.B) Try.isAgg3 rfl rfl rfl rfl rfl ?_
    obtain ⟨t29, h_t29, H21⟩ := bnd_some H20; clear H20
    refine l_callG (fun w hF hS => k27 (know_all w) (f0.mono (hw.now hF)) h_t29) Try.call27 rfl rfl rfl ?_
    refine l_val rfl rfl rfl (r_move (v := .tuple #[.int .i64 t29.1, .bool t29.2]) rfl) ?_
    refine l_val rfl rfl rfl (r_extract (v := .int .i64 t29.1) rfl rfl) ?_
    refine l_val rfl rfl rfl (r_extract (v := .bool t29.2) rfl rfl) ?_
    refine l_val rfl rfl rfl (r_assign (v := .int .i64 t29.1) rfl) ?_
    refine l_val rfl rfl rfl (r_assign (v := .bool t29.2) rfl) ?_
    refine l_nil ?_
    refine c_seq ?_
    refine c_region ?_
    refine l_val rfl rfl rfl (r_field Try.runUnderlying35 rfl Try.sizeOf4 rfl rfl) ?_
    refine l_load1 (i := 4) (v := .bool t16.Must) Try.isAgg4 rfl rfl rfl rfl rfl ?_
    refine l_nil ?_
    refine c_if (b := t16.Must) rfl (fun hb => ?_) (fun hb => ?_)
    ·have H22 := cnd_t hb H21; clear H21
     refine c_region ?_
     refine l_val rfl rfl rfl (r_field Try.runUnderlying57 rfl Try.sizeOf55 rfl rfl) ?_
     refine l_load1 (i := 1) (v := .slice p_3.1 l_5.length p_3.2) Try.isAgg55 rfl rfl rfl rfl rfl ?_
     refine l_val rfl rfl rfl (r_move (v := .int .i64 t22.1) rfl) ?_
     refine l_val rfl rfl rfl (r_move (v := .int .i64 t29.1) rfl) ?_
     refine l_val rfl rfl rfl (r_buildA (ps := [(0, .int .i64 t22.1), (1, .int .i64 t29.1)]) (cells := #[.int .i64 t22.1, .int .i64 t29.1]) Try.zeroValue36 Try.runUnderlying36 Try.sizeOf3 rfl rfl) ?_
     refine l_buildSlice (vs := [.agg #[.int .i64 t22.1, .int .i64 t29.1]]) (cs := [.int .i64 t22.1, .int .i64 t29.1]) Try.underlying55 Try.sizeOf36 Try.zeroValue36 rfl rfl rfl rfl rfl rfl rfl (fun b8 => ?_)
     obtain ⟨l40, h_l40, H23⟩ := bnd_some H22; clear H22
     refine l_turn (turns_appG (i := 2) (hn := rfl) (rds := [5]) (p := p_3) (sz := 2) (by_ := 16) (f := e_2_int) (ys := l_5) (ls := ([(ofL [t22.1, t29.1])] : List (Nat → Int))) (V := .slice (some ⟨b8, 0, none⟩) 1 1) Try.underlying55 (info_of Try.typeInfo36) rfl rfl rfl rfl rfl rfl rfl rfl rfl rfl (fun w L' hF hS hi => row_box (i := 5) hS ((hi 5 (by simp)).trans rfl) rfl rfl) (fun _ => rfl) (fun _ => rfl) h_l40) rfl rfl rfl (fun p_7 => ?_)
     refine l_val rfl rfl rfl (r_field Try.runUnderlying57 rfl Try.sizeOf55 rfl rfl) ?_
     refine l_store (i := 1) (vs := [.slice p_7.1 l40.length p_7.2]) (cs' := [.slice p_7.1 l40.length p_7.2, .slice p_4.1 l_6.length p_4.2]) Try.sizeOf55 rfl rfl rfl rfl rfl rfl rfl rfl rfl ?_
     refine l_nil ?_
     refine c_close (l40, l_6) (p_7, p_4) 0 [0, 1, 2, 3] (by exact ⟨rfl, rfl, rfl, rfl, rfl, rfl, trivial⟩) (by decide) (by kernel_rfl) (by exact ⟨H23, trivial⟩) (Nat.lt_succ_self _)
    ·have H24 := cnd_f hb H21; clear H21
     refine c_region ?_
     refine l_val rfl rfl rfl (r_field Try.runUnderlying57 rfl Try.sizeOf55 rfl rfl) ?_
     refine l_load1 (i := 1) (v := .slice p_4.1 l_6.length p_4.2) Try.isAgg55 rfl rfl rfl rfl rfl ?_
     refine l_val rfl rfl rfl (r_move (v := .int .i64 t22.1) rfl) ?_
     refine l_val rfl rfl rfl (r_move (v := .int .i64 t29.1) rfl) ?_
     refine l_val rfl rfl rfl (r_buildA (ps := [(0, .int .i64 t22.1), (1, .int .i64 t29.1)]) (cells := #[.int .i64 t22.1, .int .i64 t29.1]) Try.zeroValue36 Try.runUnderlying36 Try.sizeOf3 rfl rfl) ?_
     refine l_buildSlice (vs := [.agg #[.int .i64 t22.1, .int .i64 t29.1]]) (cs := [.int .i64 t22.1, .int .i64 t29.1]) Try.underlying55 Try.sizeOf36 Try.zeroValue36 rfl rfl rfl rfl rfl rfl rfl (fun b9 => ?_)
     obtain ⟨l48, h_l48, H25⟩ := bnd_some H24; clear H24
     refine l_turn (turns_appG (i := 3) (hn := rfl) (rds := [5]) (p := p_4) (sz := 2) (by_ := 16) (f := e_2_int) (ys := l_6) (ls := ([(ofL [t22.1, t29.1])] : List (Nat → Int))) (V := .slice (some ⟨b9, 0, none⟩) 1 1) Try.underlying55 (info_of Try.typeInfo36) rfl rfl rfl rfl rfl rfl rfl rfl rfl rfl (fun w L' hF hS hi => row_box (i := 5) hS ((hi 5 (by simp)).trans rfl) rfl rfl) (fun _ => rfl) (fun _ => rfl) h_l48) rfl rfl rfl (fun p_8 => ?_)
     refine l_val rfl rfl rfl (r_field Try.runUnderlying57 rfl Try.sizeOf55 rfl rfl) ?_
     refine l_store (i := 1) (vs := [.slice p_8.1 l48.length p_8.2]) (cs' := [.slice p_3.1 l_5.length p_3.2, .slice p_8.1 l48.length p_8.2]) Try.sizeOf55 rfl rfl rfl rfl rfl rfl rfl rfl rfl ?_
     refine l_nil ?_
     refine c_close (l_5, l48) (p_3, p_8) 0 [0, 1, 2, 3] (by exact ⟨rfl, rfl, rfl, rfl, rfl, rfl, trivial⟩) (by decide) (by kernel_rfl) (by exact ⟨H25, trivial⟩) (Nat.lt_succ_self _)
   ·rintro ⟨l_7, l_8⟩ ⟨p_5, p_6⟩ gg H17 _
    replace H17 : face_bondsOf_j3 x14_2 next2 l_7 l_8 = some r := H17
    refine c_tidyF [(0, v0), (4, .pointer (some ⟨b5, 0, none⟩)), (5, .pointer (some ⟨b6, 0, none⟩)), (12, v1), (13, .int .i64 (a1.length : Int)), (14, .int .i64 x14_2)] [cellsC b5 [.slice none 0 0, .slice none 0 0] 57, cellsC b6 [.slice p_5.1 l_7.length p_5.2, .slice p_6.1 l_8.length p_6.2] 57, rowV 36 2 (.slice p_5.1 l_7.length p_5.2) l_7.length (l_7.map e_2_int), rowV 36 2 (.slice p_6.1 l_8.length p_6.2) l_8.length (l_8.map e_2_int)] rfl rfl ?_
    refine c_region ?_
    obtain ⟨t50, h_t50, H18⟩ := bnd_some H17; clear H17
    refine l_val rfl rfl rfl (r_addG rfl rfl h_t50) ?_
    refine l_val rfl rfl rfl (r_move (v := .int .i64 t50) rfl) ?_
    refine l_nil ?_
    refine c_close (t50, l_7, l_8) (p_5, p_6) m2 [0, 1, 2, 3] (by exact ⟨rfl, rfl, rfl, rfl, rfl, rfl, trivial⟩) (by decide) (by kernel_rfl) (by exact ⟨(by subst hn2; exact H18), trivial⟩) (Nat.lt_succ_self _)
  ·have H26 := cnd_f hb H15; clear H15
   refine c_exit ?_
   refine c_close (l_5, l_6) (p_3, p_4) 0 [0, 1, 2, 3] (by exact ⟨rfl, rfl, trivial⟩) (by decide) (by kernel_rfl) (by exact ⟨H26, trivial⟩) (Nat.lt_succ_self _)
 ·rintro ⟨l, l_2⟩ ⟨p, p_2⟩ gg H14 _
  replace H14 : face_bondsOf_j1 l l_2 = some r := H14
  refine c_tidyF [(4, .pointer (some ⟨b5, 0, none⟩)), (5, .pointer (some ⟨b6, 0, none⟩))] [cellsC b5 [.slice none 0 0, .slice none 0 0] 57, cellsC b6 [.slice p.1 l.length p.2, .slice p_2.1 l_2.length p_2.2] 57, rowV 36 2 (.slice p.1 l.length p.2) l.length (l.map e_2_int), rowV 36 2 (.slice p_2.1 l_2.length p_2.2) l_2.length (l_2.map e_2_int)] rfl rfl ?_
  refine c_seq ?_
  refine c_region ?_
  refine l_loadN (i := 1) (vs := [.slice p.1 l.length p.2, .slice p_2.1 l_2.length p_2.2]) Try.isAgg57 Try.sizeOf57 rfl rfl rfl rfl rfl ?_
  refine l_store (i := 0) (vs := [.slice p.1 l.length p.2, .slice p_2.1 l_2.length p_2.2]) (cs' := [.slice p.1 l.length p.2, .slice p_2.1 l_2.length p_2.2]) Try.sizeOf57 rfl rfl rfl rfl rfl rfl rfl rfl rfl ?_
  refine l_nil ?_
  refine c_ret ?_
  obtain rfl := Option.some.inj H14
  refine c_both 2 3 rfl rfl (by decide) ?_
  refine retC (i := 0) (vs := [.slice p.1 l.length p.2, .slice p_2.1 l_2.length p_2.2]) Try.isAgg57 Try.sizeOf57 rfl rfl rfl rfl (finX (p, p_2) (i := 2) rfl rfl (Imp.refl _))
theorem k50 {a0 : T_face_table} {v0_0 : Value} {v0_1 : Value} {a1 : (List Int)} {v1 : Value} {a2 : Int} {r : Int × Int × Bool} {w : World} {h : Heap} (hw : Know h w noS) (f0_0 : FrN h 1 v0_0 gs_int a0.gap_) (f0_1 : FrN h 1 v0_1 gs_bool a0.apart_) (f1 : FrS h 1 v1 (a1.map e_i64)) (H : face_table_nearest a0 a1 a2 = some r) : Does Try.prog 50 (List.toArray [.agg #[v0_0, v0_1], v1, .int .i64 a2]) w (fun v w' => v = (.tuple #[.int .i64 r.1, .int .i64 r.2.1, .bool r.2.2]) ∧ Grow w w') := by
 refine enter (n := 70) Try.func50 rfl rfl rfl noS [] (Sat.nil _ _) ?_
 refine c_seq ?_
 refine c_region ?_
 refine l_box (cs := [v0_0, v0_1]) rfl rfl rfl rfl (fun b1 => ?_)
 refine l_val rfl rfl rfl (r_assign (v := .int .i64 0) rfl) ?_
 refine l_val rfl rfl rfl (r_assign (v := .int .i64 0) rfl) ?_
 refine l_val rfl rfl rfl (r_assign (v := .bool false) rfl) ?_
 refine l_nil ?_
 refine c_seq ?_
 refine c_region ?_
 refine l_val rfl rfl rfl (r_move (v := .int .i64 a2) rfl) ?_
 obtain ⟨t15, h_t15, H27⟩ := bnd_some H; clear H
 refine l_val rfl rfl rfl (r_addG rfl rfl h_t15) ?_
 refine l_val rfl rfl rfl (r_assign (v := .int .i64 t15) rfl) ?_
 refine l_nil ?_
 refine c_meet (r := r) (σ := Int × Int × Int) (τ := Unit) (fun s => face_table_nearest_j1 a2 s.1 s.2.1 s.2.2) (fun s t => [(2, .int .i64 a2), (6, .int .i64 s.1), (7, .int .i64 s.2.1), (9, .int .i64 s.2.2)]) (fun s t => []) (fun s t => True) ?_ ?_
 ·refine c_seq ?_
  refine c_region ?_
  refine l_val rfl rfl rfl (r_move (v := v1) rfl) ?_
  refine l_val rfl rfl rfl (r_lenF Try.underlying30 rfl f1 rfl) ?_
  refine l_val rfl rfl rfl (r_move (v := .int .i64 0) rfl) ?_
  refine l_nil ?_
  refine c_block ?_
  refine c_fix (σ := Int × Int × Int × Int) (τ := Unit) (fun next2 s => face_table_nearest_l2 a0 a1 a2 next2 s.1 s.2.1 s.2.2.1 s.2.2.2) (fun s t => [(1, v1), (2, .int .i64 a2), (3, .pointer (some ⟨b1, 0, none⟩)), (6, .int .i64 s.1), (7, .int .i64 s.2.1), (9, .int .i64 s.2.2.1), (16, v1), (17, .int .i64 (a1.length : Int)), (18, .int .i64 s.2.2.2)]) (fun s t => [cellsC b1 [v0_0, v0_1] 94]) (fun s t => True) (0, 0, t15, 0) () [0] H27 (by exact trivial) (by exact ⟨rfl, rfl, rfl, rfl, rfl, rfl, rfl, rfl, rfl, trivial⟩) (by decide) rfl ?_
  rintro ⟨x6_3, x7_3, x9_3, x18_2⟩ _ m2 gg H29 _
  clear H27
  replace H29 : face_table_nearest_l2 a0 a1 a2 (it (fun next2 s => face_table_nearest_l2 a0 a1 a2 next2 s.1 s.2.1 s.2.2.1 s.2.2.2) m2) x6_3 x7_3 x9_3 x18_2 = some r := H29
  generalize hn2 : it (fun next2 s => face_table_nearest_l2 a0 a1 a2 next2 s.1 s.2.1 s.2.2.1 s.2.2.2) m2 = next2 at H29
  refine c_tidyF [(1, v1), (2, .int .i64 a2), (3, .pointer (some ⟨b1, 0, none⟩)), (6, .int .i64 x6_3), (7, .int .i64 x7_3), (9, .int .i64 x9_3), (16, v1), (17, .int .i64 (a1.length : Int)), (18, .int .i64 x18_2)] [cellsC b1 [v0_0, v0_1] 94] rfl rfl ?_
  refine c_seq ?_
  refine c_region ?_
  refine l_val rfl rfl rfl (r_lss rfl rfl) ?_
  refine l_nil ?_
  refine c_seq ?_
  refine c_if (b := (decide (x18_2 < (a1.length : Int)))) rfl (fun hb => ?_) (fun hb => ?_)
  ·have H30 := cnd_t hb H29; clear H29
   refine c_skip ?_
   refine c_meet (r := r) (σ := Int × Int × Int) (τ := Unit) (fun s => face_table_nearest_j3 x18_2 next2 s.1 s.2.1 s.2.2) (fun s t => [(1, v1), (2, .int .i64 a2), (3, .pointer (some ⟨b1, 0, none⟩)), (6, .int .i64 s.1), (7, .int .i64 s.2.1), (9, .int .i64 s.2.2), (16, v1), (17, .int .i64 (a1.length : Int)), (18, .int .i64 x18_2)]) (fun s t => [cellsC b1 [v0_0, v0_1] 94]) (fun s t => True) ?_ ?_
   ·refine c_block ?_
    refine c_seq ?_
    refine c_region ?_
    refine l_val rfl rfl rfl (r_move (v := .int .i64 x18_2) rfl) ?_
    obtain ⟨t21, h_t21, H33⟩ := bnd_some H30; clear H30
    refine l_val rfl rfl rfl (r_indexF Try.underlying30 Try.sizeOf3 rfl rfl f1 h_t21) ?_
    refine l_read (fun w hF hS => run_loadG1 (f := e_i64) (i := x18_2) (sz := 1) (j := 0) (v := .int .i64 t21) Try.isAgg3 rfl rfl (f1.row (hw.now hF)) h_t21 rfl) rfl rfl rfl ?_
    refine l_val rfl rfl rfl (r_assign (v := .int .i64 x18_2) rfl) ?_
    refine l_val rfl rfl rfl (r_assign (v := .int .i64 t21) rfl) ?_
    refine l_nil ?_
    refine c_seq ?_
    refine c_region ?_
    refine l_val rfl rfl rfl (r_move (v := v1) rfl) ?_
    refine l_val rfl rfl rfl (r_move (v := .int .i64 x18_2) rfl) ?_
    obtain ⟨t25, h_t25, H34⟩ := bnd_some H33; clear H33
    refine l_val rfl rfl rfl (r_addG rfl rfl h_t25) ?_
    obtain ⟨t26, h_t26, H35⟩ := bnd_some H34; clear H34
    refine l_val rfl rfl rfl (r_sliceLF Try.underlying30 Try.sizeOf3 rfl rfl f1 h_t26) ?_
    refine l_val rfl rfl rfl (r_lenF Try.underlying30 rfl (f1.cut h_t26) rfl) ?_
    refine l_val rfl rfl rfl (r_move (v := .int .i64 0) rfl) ?_
    refine l_nil ?_
    refine c_block ?_
    refine c_fix (σ := Int × Int × Int × Int) (τ := Unit) (fun next4 s => face_table_nearest_l4 a0 x18_2 next2 t21 t26 next4 s.1 s.2.1 s.2.2.1 s.2.2.2) (fun s t => [(1, v1), (2, .int .i64 a2), (3, .pointer (some ⟨b1, 0, none⟩)), (6, .int .i64 s.1), (7, .int .i64 s.2.1), (9, .int .i64 s.2.2.1), (11, .int .i64 t21), (16, v1), (17, .int .i64 (a1.length : Int)), (18, .int .i64 x18_2), (26, (cutV 1 v1 t25 a1.length)), (27, .int .i64 (t26.length : Int)), (28, .int .i64 s.2.2.2)]) (fun s t => [cellsC b1 [v0_0, v0_1] 94]) (fun s t => True) (x6_3, x7_3, x9_3, 0) () [0] H35 (by exact trivial) (by exact ⟨rfl, rfl, rfl, rfl, rfl, rfl, rfl, rfl, rfl, rfl, rfl, rfl, rfl, trivial⟩) (by decide) rfl ?_
    rintro ⟨x6_6, x7_6, x9_6, x28_2⟩ _ m4 gg H36 _
    clear H35
    replace H36 : face_table_nearest_l4 a0 x18_2 next2 t21 t26 (it (fun next4 s => face_table_nearest_l4 a0 x18_2 next2 t21 t26 next4 s.1 s.2.1 s.2.2.1 s.2.2.2) m4) x6_6 x7_6 x9_6 x28_2 = some r := H36
    generalize hn4 : it (fun next4 s => face_table_nearest_l4 a0 x18_2 next2 t21 t26 next4 s.1 s.2.1 s.2.2.1 s.2.2.2) m4 = next4 at H36
    refine c_tidyF [(1, v1), (2, .int .i64 a2), (3, .pointer (some ⟨b1, 0, none⟩)), (6, .int .i64 x6_6), (7, .int .i64 x7_6), (9, .int .i64 x9_6), (11, .int .i64 t21), (16, v1), (17, .int .i64 (a1.length : Int)), (18, .int .i64 x18_2), (26, (cutV 1 v1 t25 a1.length)), (27, .int .i64 (t26.length : Int)), (28, .int .i64 x28_2)] [cellsC b1 [v0_0, v0_1] 94] rfl rfl ?_
    refine c_seq ?_
    refine c_region ?_
    refine l_val rfl rfl rfl (r_lss rfl rfl) ?_
    refine l_nil ?_
    refine c_seq ?_
    refine c_if (b := (decide (x28_2 < (t26.length : Int)))) rfl (fun hb => ?_) (fun hb => ?_)
    ·have H37 := cnd_t hb H36; clear H36
     refine c_skip ?_
     refine c_meet (r := r) (σ := Int × Int × Int) (τ := Unit) (fun s => face_table_nearest_j5 x28_2 next4 s.1 s.2.1 s.2.2) (fun s t => [(1, v1), (2, .int .i64 a2), (3, .pointer (some ⟨b1, 0, none⟩)), (6, .int .i64 s.1), (7, .int .i64 s.2.1), (9, .int .i64 s.2.2), (11, .int .i64 t21), (16, v1), (17, .int .i64 (a1.length : Int)), (18, .int .i64 x18_2), (26, (cutV 1 v1 t25 a1.length)), (27, .int .i64 (t26.length : Int)), (28, .int .i64 x28_2)]) (fun s t => [cellsC b1 [v0_0, v0_1] 94]) (fun s t => True) ?_ ?_
     ·refine c_block ?_
      refine c_seq ?_
      refine c_region ?_
      obtain ⟨t30, h_t30, H40⟩ := bnd_some H37; clear H37
      refine l_val rfl rfl rfl (r_indexF Try.underlying30 Try.sizeOf3 rfl rfl (f1.cut h_t26) h_t30) ?_
      refine l_read (fun w hF hS => run_loadG1 (f := e_i64) (i := x28_2) (sz := 1) (j := 0) (v := .int .i64 t30) Try.isAgg3 rfl rfl ((f1.cut h_t26).row (hw.now hF)) h_t30 rfl) rfl rfl rfl ?_
      refine l_val rfl rfl rfl (r_assign (v := .int .i64 t30) rfl) ?_
      refine l_nil ?_
      refine c_seq ?_
      refine c_region ?_
      refine l_val rfl rfl rfl (r_field Try.runUnderlying94 rfl Try.sizeOf77 rfl rfl) ?_
      refine l_load1 (i := 0) (v := v0_1) Try.isAgg77 rfl rfl rfl rfl rfl ?_
      refine l_val rfl rfl rfl (r_move (v := .int .i64 t21) rfl) ?_
      obtain ⟨t35, h_t35, H41⟩ := bnd_some H40; clear H40
      refine l_val rfl rfl rfl (r_indexF Try.underlying77 Try.sizeOf78 rfl rfl f0_1.frs (f0_1.ix h_t35)) ?_
      refine l_read (fun w hF hS => run_loadG1 (f := (elC h v0_1 1)) (i := t21) (sz := 1) (j := 0) (v := (elH h v0_1 1 (Int.toNat t21) 0)) Try.isAgg78 rfl rfl (f0_1.frs.row (hw.now hF)) (f0_1.ix h_t35) (rg_of (cgs_bool (f0_1.at h_t35)) rfl)) rfl rfl rfl ?_
      refine l_val rfl rfl rfl (r_move (v := .int .i64 t30) rfl) ?_
      obtain ⟨t38, h_t38, H42⟩ := bnd_some H41; clear H41
      refine l_val rfl rfl rfl (r_indexF Try.underlying78 Try.sizeOf4 rfl rfl (show FrS h 1 (elH h v0_1 1 (Int.toNat t21) 0) (t35.map e_bool) from (f0_1.at h_t35)) h_t38) ?_
      refine l_read (fun w hF hS => run_loadG1 (f := e_bool) (i := t30) (sz := 1) (j := 0) (v := .bool t38) Try.isAgg4 rfl rfl ((show FrS h 1 (elH h v0_1 1 (Int.toNat t21) 0) (t35.map e_bool) from (f0_1.at h_t35)).row (hw.now hF)) h_t38 rfl) rfl rfl rfl ?_
      refine l_val rfl rfl rfl (r_not rfl) ?_
      refine l_val rfl rfl rfl (r_move (v := .bool (!t38)) rfl) ?_
      refine split (fun hb => ?_) (fun hb => ?_)
      ·have H43 := cnd_t hb H42; clear H42
       refine l_val rfl rfl rfl (r_field Try.runUnderlying94 rfl Try.sizeOf25 rfl rfl) ?_
       refine l_load1 (i := 0) (v := v0_0) Try.isAgg25 rfl rfl rfl rfl rfl ?_
       refine l_val rfl rfl rfl (r_move (v := .int .i64 t21) rfl) ?_
       obtain ⟨t45, h_t45, H44⟩ := bnd_some H43; clear H43
       refine l_val rfl rfl rfl (r_indexF Try.underlying25 Try.sizeOf30 rfl rfl f0_0.frs (f0_0.ix h_t45)) ?_
       refine l_read (fun w hF hS => run_loadG1 (f := (elC h v0_0 1)) (i := t21) (sz := 1) (j := 0) (v := (elH h v0_0 1 (Int.toNat t21) 0)) Try.isAgg30 rfl rfl (f0_0.frs.row (hw.now hF)) (f0_0.ix h_t45) (rg_of (cgs_int (f0_0.at h_t45)) rfl)) rfl rfl rfl ?_
       refine l_val rfl rfl rfl (r_move (v := .int .i64 t30) rfl) ?_
       obtain ⟨t48, h_t48, H45⟩ := bnd_some H44; clear H44
       refine l_val rfl rfl rfl (r_indexF Try.underlying30 Try.sizeOf3 rfl rfl (show FrS h 1 (elH h v0_0 1 (Int.toNat t21) 0) (t45.map e_i64) from (f0_0.at h_t45)) h_t48) ?_
       refine l_read (fun w hF hS => run_loadG1 (f := e_i64) (i := t30) (sz := 1) (j := 0) (v := .int .i64 t48) Try.isAgg3 rfl rfl ((show FrS h 1 (elH h v0_0 1 (Int.toNat t21) 0) (t45.map e_i64) from (f0_0.at h_t45)).row (hw.now hF)) h_t48 rfl) rfl rfl rfl ?_
       refine l_val rfl rfl rfl (r_move (v := .int .i64 x9_6) rfl) ?_
       refine l_val rfl rfl rfl (r_lss rfl rfl) ?_
       refine l_val rfl rfl rfl (r_pickT (v := .bool (decide (t48 < x9_6))) rfl rfl) ?_
       refine l_nil ?_
       refine c_if (b := (decide (t48 < x9_6))) rfl (fun hb => ?_) (fun hb => ?_)
       ·have H46 := cnd_t hb H45; clear H45
        exact c_regionD (Kd.p :: Kd.p :: Kd.p :: Kd.d [0] _ :: Kd.p :: Kd.p :: Kd.d [] _ :: Kd.p :: Kd.p :: Kd.d [] _ :: Kd.p :: Kd.p :: Kd.p :: []) 0 mixed (by
         refine d_val rfl rfl (r_move (v := .int .i64 t21) rfl) ?_
         refine d_val rfl rfl (r_move (v := .int .i64 t30) rfl) ?_
         refine d_val rfl rfl (r_field Try.runUnderlying94 rfl Try.sizeOf25 rfl rfl) ?_
         refine d_load1 (i := 0) (v := v0_0) Try.isAgg25 rfl rfl rfl rfl ?_
         refine d_val rfl rfl (r_move (v := .int .i64 t21) rfl) ?_
         have h_t58 := bnd_val H46
         have H47 := bnd_rest H46
         refine d_val rfl rfl (r_indexF Try.underlying25 Try.sizeOf30 rfl rfl f0_0.frs (f0_0.ix h_t58)) ?_
         refine d_read (fun w hF => run_loadG1 (f := (elC h v0_0 1)) (i := t21) (sz := 1) (j := 0) (v := (elH h v0_0 1 (Int.toNat t21) 0)) Try.isAgg30 rfl rfl (f0_0.frs.row (hw.now hF)) (f0_0.ix h_t58) (rg_of (cgs_int (f0_0.at h_t58)) rfl)) rfl rfl ?_
         refine d_val rfl rfl (r_move (v := .int .i64 t30) rfl) ?_
         have h_t61 := bnd_val H47
         have H48 := bnd_rest H47
         refine d_val rfl rfl (r_indexF Try.underlying30 Try.sizeOf3 rfl rfl (show FrS h 1 (elH h v0_0 1 (Int.toNat t21) 0) ((val (gAt a0.gap_ t21)).map e_i64) from (f0_0.at h_t58)) h_t61) ?_
         refine d_read (fun w hF => run_loadG1 (f := e_i64) (i := t30) (sz := 1) (j := 0) (v := .int .i64 (val (gAt (val (gAt a0.gap_ t21)) t30))) Try.isAgg3 rfl rfl ((show FrS h 1 (elH h v0_0 1 (Int.toNat t21) 0) ((val (gAt a0.gap_ t21)).map e_i64) from (f0_0.at h_t58)).row (hw.now hF)) h_t61 rfl) rfl rfl ?_
         refine d_val rfl rfl (r_assign (v := .int .i64 t21) rfl) ?_
         refine d_val rfl rfl (r_assign (v := .int .i64 t30) rfl) ?_
         refine d_val rfl rfl (r_assign (v := .int .i64 (val (gAt (val (gAt a0.gap_ t21)) t30))) rfl) ?_
         refine d_nil ?_
         refine c_close (t21, t30, (val (gAt (val (gAt a0.gap_ t21)) t30))) () 0 [0] (by exact ⟨rfl, rfl, rfl, rfl, rfl, rfl, rfl, rfl, rfl, rfl, rfl, rfl, rfl, trivial⟩) (by decide) (by kernel_rfl) (by exact ⟨H48, trivial⟩) (Nat.lt_succ_self _)
         ) (by kernel_rfl)
       ·have H49 := cnd_f hb H45; clear H45
        refine c_skip ?_
        refine c_close (x6_6, x7_6, x9_6) () 0 [0] (by exact ⟨rfl, rfl, rfl, rfl, rfl, rfl, rfl, rfl, rfl, rfl, rfl, rfl, rfl, trivial⟩) (by decide) (by kernel_rfl) (by exact ⟨H49, trivial⟩) (Nat.lt_succ_self _)
      ·have H50 := cnd_f hb H42; clear H42
       refine l_passed rfl rfl rfl ?_
       refine l_passed rfl rfl rfl ?_
       refine l_passed rfl rfl rfl ?_
       refine l_passed rfl rfl rfl ?_
       refine l_passed rfl rfl rfl ?_
       refine l_passed rfl rfl rfl ?_
       refine l_passed rfl rfl rfl ?_
       refine l_passed rfl rfl rfl ?_
       refine l_passed rfl rfl rfl ?_
       refine l_passed rfl rfl rfl ?_
       refine l_val rfl rfl rfl (r_pickF (v := .bool false) rfl rfl) ?_
       refine l_nil ?_
       refine c_false rfl ?_
       refine c_skip ?_
       refine c_close (x6_6, x7_6, x9_6) () 0 [0] (by exact ⟨rfl, rfl, rfl, rfl, rfl, rfl, rfl, rfl, rfl, rfl, rfl, rfl, rfl, trivial⟩) (by decide) (by kernel_rfl) (by exact ⟨H50, trivial⟩) (Nat.lt_succ_self _)
     ·rintro ⟨x6_7, x7_7, x9_7⟩ _ gg H38 _
      replace H38 : face_table_nearest_j5 x28_2 next4 x6_7 x7_7 x9_7 = some r := H38
      refine c_tidyF [(1, v1), (2, .int .i64 a2), (3, .pointer (some ⟨b1, 0, none⟩)), (6, .int .i64 x6_7), (7, .int .i64 x7_7), (9, .int .i64 x9_7), (11, .int .i64 t21), (16, v1), (17, .int .i64 (a1.length : Int)), (18, .int .i64 x18_2), (26, (cutV 1 v1 t25 a1.length)), (27, .int .i64 (t26.length : Int)), (28, .int .i64 x28_2)] [cellsC b1 [v0_0, v0_1] 94] rfl rfl ?_
      refine c_region ?_
      obtain ⟨t63, h_t63, H39⟩ := bnd_some H38; clear H38
      refine l_val rfl rfl rfl (r_addG rfl rfl h_t63) ?_
      refine l_val rfl rfl rfl (r_move (v := .int .i64 t63) rfl) ?_
      refine l_nil ?_
      refine c_close (x6_7, x7_7, x9_7, t63) () m4 [0] (by exact ⟨rfl, rfl, rfl, rfl, rfl, rfl, rfl, rfl, rfl, rfl, rfl, rfl, rfl, trivial⟩) (by decide) (by kernel_rfl) (by exact ⟨(by subst hn4; exact H39), trivial⟩) (Nat.lt_succ_self _)
    ·have H51 := cnd_f hb H36; clear H36
     refine c_exit ?_
     refine c_close (x6_6, x7_6, x9_6) () 0 [0] (by exact ⟨rfl, rfl, rfl, rfl, rfl, rfl, rfl, rfl, rfl, trivial⟩) (by decide) (by kernel_rfl) (by exact ⟨H51, trivial⟩) (Nat.lt_succ_self _)
   ·rintro ⟨x6_4, x7_4, x9_4⟩ _ gg H31 _
    replace H31 : face_table_nearest_j3 x18_2 next2 x6_4 x7_4 x9_4 = some r := H31
    refine c_tidyF [(1, v1), (2, .int .i64 a2), (3, .pointer (some ⟨b1, 0, none⟩)), (6, .int .i64 x6_4), (7, .int .i64 x7_4), (9, .int .i64 x9_4), (16, v1), (17, .int .i64 (a1.length : Int)), (18, .int .i64 x18_2)] [cellsC b1 [v0_0, v0_1] 94] rfl rfl ?_
    refine c_region ?_
    obtain ⟨t64, h_t64, H32⟩ := bnd_some H31; clear H31
    refine l_val rfl rfl rfl (r_addG rfl rfl h_t64) ?_
    refine l_val rfl rfl rfl (r_move (v := .int .i64 t64) rfl) ?_
    refine l_nil ?_
    refine c_close (x6_4, x7_4, x9_4, t64) () m2 [0] (by exact ⟨rfl, rfl, rfl, rfl, rfl, rfl, rfl, rfl, rfl, trivial⟩) (by decide) (by kernel_rfl) (by exact ⟨(by subst hn2; exact H32), trivial⟩) (Nat.lt_succ_self _)
  ·have H52 := cnd_f hb H29; clear H29
   refine c_exit ?_
   refine c_close (x6_3, x7_3, x9_3) () 0 [] (by exact ⟨rfl, rfl, rfl, rfl, trivial⟩) (by decide) (by kernel_rfl) (by exact ⟨H52, trivial⟩) (Nat.lt_succ_self _)
 ·rintro ⟨x6, x7, x9⟩ _ gg H28 _
  replace H28 : face_table_nearest_j1 a2 x6 x7 x9 = some r := H28
  refine c_tidyF [(2, .int .i64 a2), (6, .int .i64 x6), (7, .int .i64 x7), (9, .int .i64 x9)] [] rfl rfl ?_
  refine c_seq ?_
  refine c_region ?_
  refine l_val rfl rfl rfl (r_move (v := .int .i64 x6) rfl) ?_
  refine l_val rfl rfl rfl (r_move (v := .int .i64 x7) rfl) ?_
  refine l_val rfl rfl rfl (r_move (v := .int .i64 x9) rfl) ?_
  refine l_val rfl rfl rfl (r_move (v := .int .i64 a2) rfl) ?_
  refine l_val rfl rfl rfl (r_leq rfl rfl) ?_
  refine l_val rfl rfl rfl (r_assign (v := .int .i64 x6) rfl) ?_
  refine l_val rfl rfl rfl (r_assign (v := .int .i64 x7) rfl) ?_
  refine l_val rfl rfl rfl (r_assign (v := .bool (decide (x9 ≤ a2))) rfl) ?_
  refine l_nil ?_
  refine c_ret ?_
  obtain rfl := Option.some.inj H28
  refine ret3 (v1 := .int .i64 x6) (v2 := .int .i64 x7) (v3 := .bool (decide (x9 ≤ a2))) rfl rfl rfl rfl (fin rfl)
theorem k40 {a0 : (List Int)} {p0 : Option Addr × Nat} {n0 : Nat} {r : (List Int)} {w : World} {h : Heap} {S : Nat → Prop} (hcs : (rowV 3 1 (.slice p0.1 n0 p0.2) n0 (a0.map e_i64)).P S w) (hlt : ∀ b, S b → b < w.heap.size) (_ : Know h w S) (hn0 : n0 = a0.length) (H : gSortI a0 = some r) : Does Try.prog 40 (List.toArray [.slice p0.1 n0 p0.2]) w (fun v w' => ∃ x : Unit, v = (.tuple #[]) ∧ Turn w w' S (rowV 3 1 (.slice p0.1 n0 p0.2) n0 (r.map e_i64))) :=
  sort_ints (ρ := Go.Proofs.Try.lays189_ren) Go.Proofs.Try.lays189 hcs hlt hn0 H

theorem k55 {a : Option Addr} {n c : Nat} (hc : n ≤ c) : Ret Try.prog 55 [.slice a n c] (.slice (cutA a 0 n 1) n n) := by
  refine enterRet (n := 9) Try.func55 rfl rfl rfl (fun wd => ?_)
  refine c_seq ?_
  refine c_region ?_
  refine l_val rfl rfl rfl (r_assign (v := .slice none 0 0) rfl) ?_
  refine l_nil ?_
  refine c_seq ?_
  refine c_region ?_
  refine l_val rfl rfl rfl (r_move (v := .slice a n c) rfl) ?_
  refine l_val rfl rfl rfl (r_move (v := .slice a n c) rfl) ?_
  refine l_val rfl rfl rfl (r_len Try.underlying30 rfl) ?_
  refine l_val rfl rfl rfl (r_move (v := .slice a n c) rfl) ?_
  refine l_val rfl rfl rfl (r_len Try.underlying30 rfl) ?_
  refine l_val rfl rfl rfl (r_sliceHM (a := a) (m := n) (c := c) (h := (n : Int)) (q := (n : Int)) Try.underlying30 Try.sizeOf3 rfl rfl rfl (Int.natCast_nonneg n) (Int.le_refl _) (Int.ofNat_le.2 hc)) ?_
  refine l_val rfl rfl rfl (r_assign (v := .slice (cutA a 0 n 1) n n) rfl) ?_
  refine l_nil ?_
  refine c_ret ?_
  exact ret1 (v := .slice (cutA a 0 n 1) n n) rfl rfl (fin rfl)

theorem k56 {a : Option Addr} {n c : Nat} (hc : n ≤ c) : Ret Try.prog 56 [.slice a n c] (.slice (cutA a 0 n 1) n n) := by
  refine enterRet (n := 9) Try.func56 rfl rfl rfl (fun wd => ?_)
  refine c_seq ?_
  refine c_region ?_
  refine l_val rfl rfl rfl (r_assign (v := .slice none 0 0) rfl) ?_
  refine l_nil ?_
  refine c_seq ?_
  refine c_region ?_
  refine l_val rfl rfl rfl (r_move (v := .slice a n c) rfl) ?_
  refine l_val rfl rfl rfl (r_move (v := .slice a n c) rfl) ?_
  refine l_val rfl rfl rfl (r_len Try.underlying25 rfl) ?_
  refine l_val rfl rfl rfl (r_move (v := .slice a n c) rfl) ?_
  refine l_val rfl rfl rfl (r_len Try.underlying25 rfl) ?_
  refine l_val rfl rfl rfl (r_sliceHM (a := a) (m := n) (c := c) (h := (n : Int)) (q := (n : Int)) Try.underlying25 Try.sizeOf30 rfl rfl rfl (Int.natCast_nonneg n) (Int.le_refl _) (Int.ofNat_le.2 hc)) ?_
  refine l_val rfl rfl rfl (r_assign (v := .slice (cutA a 0 n 1) n n) rfl) ?_
  refine l_nil ?_
  refine c_ret ?_
  exact ret1 (v := .slice (cutA a 0 n 1) n n) rfl rfl (fin rfl)

end Go.Proofs.Ytfihhlfkoghjeaa

namespace Go.Pl
open Go.Md

theorem up {ρ : Type} {F : (Int → Option ρ) → Int → Option ρ} (n : Nat) (spec : Nat → Option ρ)
    (step : ∀ (next : Int → Option ρ) (k : Nat), k ≤ n → (k < n → next ((k : Int) + 1) = spec (k + 1)) → F next (k : Int) = spec k) : fix F 0 = spec 0 := by
  have h := fix_of (F := F) (fun i => spec i.toNat) (fun i => 0 ≤ i ∧ i ≤ n) (fun i => n - i.toNat) (by
    intro next a ⟨h0, h1⟩ ih
    obtain ⟨k, rfl⟩ := Int.eq_ofNat_of_zero_le h0
    simp only [Int.toNat_natCast]
    refine step next k (by omega) fun hk => ?_
    have := ih ((k : Int) + 1) (by omega) (by simp only [Int.toNat_natCast]; omega)
    rw [this, show ((k : Int) + 1).toNat = k + 1 from by omega]) 0 (by omega)
  simpa using h

theorem up2 {ρ σ : Type} {F : (Int × σ → Option ρ) → Int × σ → Option ρ} (n : Nat) (spec : Nat → σ → Option ρ) (I : Nat → σ → Prop)
    (step : ∀ (next : Int × σ → Option ρ) (k : Nat) (s : σ), k ≤ n → I k s → (∀ s', k < n → I (k + 1) s' → next ((k : Int) + 1, s') = spec (k + 1) s') → F next ((k : Int), s) = spec k s) (s : σ) (hs : I 0 s) : fix F (0, s) = spec 0 s := by
  have h := fix_of (F := F) (fun i => spec i.1.toNat i.2) (fun i => 0 ≤ i.1 ∧ i.1 ≤ n ∧ I i.1.toNat i.2) (fun i => n - i.1.toNat) (by
    rintro next ⟨a, s⟩ ⟨h0, h1, h2⟩ ih
    simp only at h0 h1 h2
    obtain ⟨k, rfl⟩ := Int.eq_ofNat_of_zero_le h0
    simp only [Int.toNat_natCast] at h2 ⊢
    refine step next k s (by omega) h2 fun s' hk hI => ?_
    have := ih ((k : Int) + 1, s') ⟨by simp only; omega, by simp only; omega, by simp only; rw [show ((k : Int) + 1).toNat = k + 1 from by omega]; exact hI⟩ (by simp only [Int.toNat_natCast]; omega)
    rw [this, show ((k : Int) + 1).toNat = k + 1 from by omega]) (0, s) ⟨by simp, by simp, hs⟩
  simpa using h

theorem up2r {ρ σ : Type} {F : (σ × Int → Option ρ) → σ × Int → Option ρ} (n : Nat) (spec : Nat → σ → Option ρ) (I : Nat → σ → Prop)
    (step : ∀ (next : σ × Int → Option ρ) (k : Nat) (s : σ), k ≤ n → I k s → (∀ s', k < n → I (k + 1) s' → next (s', (k : Int) + 1) = spec (k + 1) s') → F next (s, (k : Int)) = spec k s) (s : σ) (hs : I 0 s) : fix F (s, 0) = spec 0 s := by
  have h := fix_of (F := F) (fun i => spec i.2.toNat i.1) (fun i => 0 ≤ i.2 ∧ i.2 ≤ n ∧ I i.2.toNat i.1) (fun i => n - i.2.toNat) (by
    rintro next ⟨s, a⟩ ⟨h0, h1, h2⟩ ih
    simp only at h0 h1 h2
    obtain ⟨k, rfl⟩ := Int.eq_ofNat_of_zero_le h0
    simp only [Int.toNat_natCast] at h2 ⊢
    refine step next k s (by omega) h2 fun s' hk hI => ?_
    have := ih (s', (k : Int) + 1) ⟨by simp only; omega, by simp only; omega, by simp only; rw [show ((k : Int) + 1).toNat = k + 1 from by omega]; exact hI⟩ (by simp only [Int.toNat_natCast]; omega)
    rw [this, show ((k : Int) + 1).toNat = k + 1 from by omega]) (s, 0) ⟨by simp, by simp, hs⟩
  simpa using h

def firstE (c : Nat → Int) : Nat → Nat → Int
  | 0, _ => 0
  | m + 1, k => if c k = 0 then firstE c m (k + 1) else c k

theorem firstE_congr {c c' : Nat → Int} : ∀ (m k : Nat), (∀ j, k ≤ j → j < k + m → c j = c' j) → firstE c m k = firstE c' m k
  | 0, _, _ => rfl
  | m + 1, k, h => by
    simp only [firstE]
    rw [h k (Nat.le_refl _) (by omega), firstE_congr m (k + 1) fun j h1 h2 => h j (by omega) (by omega)]

theorem firstE_zero {c : Nat → Int} : ∀ {m k : Nat}, firstE c m k = 0 → ∀ j, k ≤ j → j < k + m → c j = 0
  | 0, k, _, j, h1, h2 => by omega
  | m + 1, k, h, j, h1, h2 => by
    simp only [firstE] at h
    split at h
    · rename_i h0
      by_cases hj : j = k
      · subst hj; exact h0
      · exact firstE_zero h j (by omega) (by omega)
    · rename_i h0; exact absurd h h0

theorem firstE_all {c : Nat → Int} : ∀ (m k : Nat), (∀ j, k ≤ j → j < k + m → c j = 0) → firstE c m k = 0
  | 0, _, _ => rfl
  | m + 1, k, h => by
    simp only [firstE]
    rw [if_pos (h k (Nat.le_refl _) (by omega)), firstE_all m (k + 1) fun j h1 h2 => h j (by omega) (by omega)]

theorem scan {F : (Int → Option Int) → Int → Option Int} (n : Nat) (c : Nat → Int) (step : ∀ (next : Int → Option Int) (k : Nat), k < n → F next (k : Int) = if c k = 0 then next ((k : Int) + 1) else some (c k)) (last : ∀ next, F next (n : Int) = some 0) : fix F 0 = some (firstE c n 0) := by
  have h := up (F := F) n (fun k => some (firstE c (n - k) k)) (by
    intro next k hk ih
    by_cases h : k < n
    · rw [step next k h, show n - k = (n - (k + 1)) + 1 from by omega]
      simp only [firstE]
      split
      · rw [ih h]
      · rfl
    · have : k = n := by omega
      subst this
      rw [last, Nat.sub_self]; rfl)
  simpa using h

end Go.Pl

namespace Go.Pl
open Go.Md

theorem fix_run {α ρ : Type} {F : (α → Option ρ) → α → Option ρ} (I : α → Prop) (μ : α → Nat) (Post : ρ → Prop)
    (step : ∀ a, I a → (∃ r, Post r ∧ ∀ next, F next a = some r) ∨ (∃ b, I b ∧ μ b < μ a ∧ ∀ next, F next a = next b)) (a : α) (ha : I a) : ∃ r, fix F a = some r ∧ Post r := by
  have key : ∀ n a, I a → μ a < n → ∃ r, fix F a = some r ∧ Post r := by
    intro n
    induction n with
    | zero => intro a _ h; omega
    | succ n ih =>
      intro a ha h
      rcases step a ha with ⟨r, h1, h2⟩ | ⟨b, h1, h2, h3⟩
      · exact ⟨r, fix_done h2, h1⟩
      · rw [fix_goto b h3]; exact ih b h1 (by omega)
  exact key (μ a + 1) a ha (by omega)

theorem fix_runP {α ρ π κ : Type} {F : π → (α → Option ρ) → α → Option ρ} (J : π → κ → Option ρ) (I : α → Prop) (μ : α → Nat) (Post : κ → Prop)
    (step : ∀ a, I a → (∃ r, Post r ∧ ∀ p next, F p next a = J p r) ∨ (∃ b, I b ∧ μ b < μ a ∧ ∀ p next, F p next a = next b)) (a : α) (ha : I a) : ∃ r, Post r ∧ ∀ p, fix (F p) a = J p r := by
  have key : ∀ n a, I a → μ a < n → ∃ r, Post r ∧ ∀ p, fix (F p) a = J p r := by
    intro n
    induction n with
    | zero => intro a _ h; omega
    | succ n ih =>
      intro a ha h
      rcases step a ha with ⟨r, h1, h2⟩ | ⟨b, h1, h2, h3⟩
      · exact ⟨r, h1, fun p => fix_done (h2 p)⟩
      · obtain ⟨r, g1, g2⟩ := ih b h1 (by omega)
        exact ⟨r, g1, fun p => (fix_goto b (h3 p)).trans (g2 p)⟩
  exact key (μ a + 1) a ha (by omega)

theorem fix_upto {ρ : Type} {F : (Int → Option ρ) → Int → Option ρ} {o : Option ρ} (i e : Nat) (hie : i ≤ e) (more : ∀ (next : Int → Option ρ) (k : Nat), i ≤ k → k < e → F next (k : Int) = next ((k : Int) + 1)) (stop : ∀ next, F next (e : Int) = o) : fix F (i : Int) = o := by
  have key : ∀ n k, i ≤ k → k ≤ e → e - k < n → fix F (k : Int) = o := by
    intro n
    induction n with
    | zero => intro k _ _ h; omega
    | succ n ih =>
      intro k h1 h2 h3
      rcases Nat.lt_or_ge k e with h | h
      · rw [fix_goto ((k : Int) + 1) (fun next => more next k h1 h)]; exact ih (k + 1) (by omega) (by omega) (by omega)
      · have : k = e := by omega
        subst this; exact fix_done stop
  exact key (e - i + 1) i (Nat.le_refl _) hie (by omega)

theorem fix_list {α ρ σ : Type} {F : (Int × σ → Option ρ) → Int × σ → Option ρ} (xs : List α) (f : σ → α → σ) (J : σ → Option ρ) (I : Nat → σ → Prop)
    (more : ∀ (next : Int × σ → Option ρ) (k : Nat) (s : σ) (hk : k < xs.length), I k s → F next ((k : Int), s) = next ((k : Int) + 1, f s xs[k]) ∧ I (k + 1) (f s xs[k]))
    (stop : ∀ (next : Int × σ → Option ρ) (s : σ), I xs.length s → F next ((xs.length : Int), s) = J s) (s : σ) (hs : I 0 s) : fix F (0, s) = J (xs.foldl f s) := by
  have key : ∀ n k s, k ≤ xs.length → xs.length - k < n → I k s → fix F ((k : Int), s) = J ((xs.drop k).foldl f s) := by
    intro n
    induction n with
    | zero => intro k s _ h; omega
    | succ n ih =>
      intro k s hk h hI
      rcases Nat.lt_or_ge k xs.length with h1 | h1
      · rw [fix_goto ((k : Int) + 1, f s xs[k]) (fun next => (more next k s h1 hI).1), List.drop_eq_getElem_cons h1, List.foldl_cons]
        exact ih (k + 1) _ (by omega) (by omega) (more (fun _ => none) k s h1 hI).2
      · have : k = xs.length := by omega
        subst this
        rw [List.drop_length]
        exact fix_done fun next => stop next s hI
  have := key (xs.length + 1) 0 s (Nat.zero_le _) (by omega) hs
  simpa using this

theorem foldl_app {α β : Type} (f : α → β) : ∀ (xs : List α) (s : List β), xs.foldl (fun s x => s ++ [f x]) s = s ++ xs.map f
  | [], s => by simp
  | x :: xs, s => by rw [List.foldl_cons, foldl_app f xs]; simp

end Go.Pl

namespace Go.M
open Go.Md Go.Pl
set_option linter.unusedVariables false

theorem half {x : Int} (h : 0 ≤ x ∧ x ≤ 4611686018427387904) : gShr 64 (wU64 x) 1 = some (x / 2) ∧ wI64 (x / 2) = x / 2 := by
  refine ⟨?_, wI64_in (by omega)⟩
  rw [wU64_in (by omega)]
  unfold gShr
  rw [if_pos (by omega)]
  rfl
theorem decT {p : Prop} [Decidable p] (h : p) : decide p = true := decide_eq_true h
theorem decF {p : Prop} [Decidable p] (h : ¬ p) : decide p = false := decide_eq_false h

def idx {α : Type} (g : α → Bool) (l : List α) : Int := match l.findIdx? g with | some k => (k : Int) | none => -1
theorem idx_nn {α : Type} (g : α → Bool) (l : List α) : decide (0 ≤ idx g l) = l.any g := by
  unfold idx
  cases h : l.findIdx? g with
  | none =>
    rw [List.findIdx?_eq_none_iff] at h
    have : l.any g = false := by rw [List.any_eq_false]; intro x hx; simp [h x hx]
    rw [this]; rfl
  | some k =>
    have : l.any g = true := by
      rw [List.findIdx?_eq_some_iff_getElem] at h
      obtain ⟨h1, h2, _⟩ := h
      exact List.any_eq_true.2 ⟨_, List.getElem_mem h1, h2⟩
    rw [this]; simp

theorem index_loop {α : Type} {F : (Int → Option Int) → Int → Option Int} (l : List α) (g : α → Bool)
    (more : ∀ (next : Int → Option Int) (k : Nat) (h : k < l.length), F next (k : Int) = if g l[k] = true then some (k : Int) else next ((k : Int) + 1)) (last : ∀ next, F next (l.length : Int) = some (-1)) : fix F 0 = some (idx g l) := by
  have h := up (F := F) l.length (fun k => some (match (l.drop k).findIdx? g with | some j => ((k + j : Nat) : Int) | none => -1)) (fun next k hk ih => by
    rcases Nat.lt_or_ge k l.length with h | h
    · rw [more next k h, List.drop_eq_getElem_cons h, List.findIdx?_cons]
      by_cases hg : g l[k] = true
      · rw [if_pos hg, if_pos hg]; rfl
      · rw [if_neg hg, if_neg hg, ih h]
        cases (l.drop (k + 1)).findIdx? g with
        | none => rfl
        | some j => simp only [Option.map_some]; rw [show k + 1 + j = k + (j + 1) by omega]
    · have : k = l.length := by omega
      subst this
      rw [last, List.drop_length]; rfl)
  rw [h, List.drop_zero]
  unfold idx
  cases l.findIdx? g <;> simp

theorem indexFunc_of {α : Type} {l : List α} {f : α → Option Bool} {g : α → Bool} (hl : l.length ≤ 9223372036854775807) (hf : ∀ x ∈ l, f x = some (g x)) {F : (Int → Option Int) → Int → Option Int}
    (hF : ∀ next x, F next x = cnd (decide (x < (l.length : Int))) (bnd (gAt l x) fun t14 => bnd (f t14) fun t16 => cnd t16 (some x) (bnd (gI (x + 1)) fun t18 => next t18)) (some (-1))) : fix F 0 = some (idx g l) := by
  refine index_loop l g (fun next k h => ?_) fun next => ?_
  · rw [hF, decT (by omega), cnd_true, gAt_nat h, bnd_pure, hf _ (List.getElem_mem h), bnd_pure, gI_ok (by omega), bnd_pure]
    by_cases hg : g l[k] = true
    · rw [if_pos hg, hg, cnd_true]
    · rw [if_neg hg, (by simpa using hg : g l[k] = false), cnd_false]
  · rw [hF, decF (by omega), cnd_false]

theorem any_eq (l : List Int) (n : Int) : l.any (fun x => decide (n = x)) = decide (n ∈ l) := by
  rw [Bool.eq_iff_iff, List.any_eq_true, decide_eq_true_iff]
  constructor
  · rintro ⟨x, hx, h⟩; simp at h; subst h; exact hx
  · intro h; exact ⟨n, h, by simp⟩
theorem contains_eq (l : List Int) (n : Int) (hl : l.length ≤ 9223372036854775807) : slices_Contains_int l n = some (decide (n ∈ l)) := by
  unfold slices_Contains_int
  rw [show slices_Index_int l n = some (idx (fun x => decide (n = x)) l) from indexFunc_of (f := fun t14 => some (decide (n = t14))) hl (fun _ _ => rfl) fun _ _ => rfl, bnd_pure, idx_nn, any_eq]

theorem bin_loop {α ρ : Type} {F : (Int × Int → Option ρ) → Int × Int → Option ρ} (l : List α) (p : α → Bool) (mono : ∀ (i j : Nat) (hi : i < l.length) (hj : j < l.length), i < j → p l[j] = true → p l[i] = true) (J : Int → Option ρ)
    (more : ∀ (next : Int × Int → Option ρ) (i j : Nat) (h : (i + j) / 2 < l.length), i < j → j ≤ l.length → F next ((i : Int), (j : Int)) = if p l[(i + j) / 2] = true then next (((i + j) / 2 : Nat) + 1, (j : Int)) else next ((i : Int), (((i + j) / 2 : Nat) : Int)))
    (stop : ∀ next (i : Nat), i ≤ l.length → F next ((i : Int), (i : Int)) = J i) :
    ∃ k : Nat, k ≤ l.length ∧ (∀ (i : Nat) (h : i < l.length), i < k → p l[i] = true) ∧ (∀ (i : Nat) (h : i < l.length), k ≤ i → p l[i] = false) ∧ fix F (0, (l.length : Int)) = J k := by
  have key : ∀ n i j, i ≤ j → j ≤ l.length → j - i < n → (∀ (q : Nat) (h : q < l.length), q < i → p l[q] = true) → (∀ (q : Nat) (h : q < l.length), j ≤ q → p l[q] = false) →
      ∃ k : Nat, k ≤ l.length ∧ (∀ (i : Nat) (h : i < l.length), i < k → p l[i] = true) ∧ (∀ (i : Nat) (h : i < l.length), k ≤ i → p l[i] = false) ∧ fix F ((i : Int), (j : Int)) = J k := by
    intro n
    induction n with
    | zero => intro i j _ _ h; omega
    | succ n ih =>
      intro i j h1 h2 h3 h4 h5
      rcases Nat.lt_or_ge i j with h | h
      · have hb : (i + j) / 2 < l.length := by omega
        by_cases hp : p l[(i + j) / 2] = true
        · rw [fix_goto ((((i + j) / 2 + 1 : Nat) : Int), (j : Int)) fun next => by rw [more next i j hb h h2, if_pos hp]; rfl]
          refine ih _ _ (by omega) h2 (by omega) (fun q hq hq2 => ?_) h5
          rcases Nat.lt_or_ge q ((i + j) / 2) with h6 | h6
          · exact mono q _ hq hb h6 hp
          · have : q = (i + j) / 2 := by omega
            subst this; exact hp
        · rw [fix_goto ((i : Int), (((i + j) / 2 : Nat) : Int)) fun next => by rw [more next i j hb h h2, if_neg hp]]
          refine ih _ _ (by omega) (by omega) (by omega) h4 fun q hq hq2 => ?_
          rcases Nat.lt_or_ge ((i + j) / 2) q with h6 | h6
          · cases h7 : p l[q] with
            | false => rfl
            | true => exact absurd (mono _ q hb hq h6 h7) hp
          · have : q = (i + j) / 2 := by omega
            subst this; simpa using hp
      · have : i = j := by omega
        subst this
        exact ⟨i, h2, h4, h5, fix_done fun next => stop next i h2⟩
  simpa using key (l.length + 1) 0 l.length (Nat.zero_le _) (Nat.le_refl _) (by omega) (fun q _ h => by omega) (fun q h h' => by omega)

def Rise (l : List T_face_Likeness) : Prop := l.Pairwise fun x y => x.Id < y.Id
def has (id : Int) (x : T_face_Likeness) : Bool := decide (x.Id = id)

theorem at_eq (l : List T_face_Likeness) (id : Int) (hr : Rise l) (hl : l.length ≤ 1000000000) :
    ∃ i b, face_at l id = some (i, b) ∧ b = l.any (has id) ∧ (b = true → i = idx (has id) l) := by
  have hp := List.pairwise_iff_getElem.1 hr
  obtain ⟨k, h1, h2, h3, h4⟩ := bin_loop (F := fun next2 s => slices_BinarySearchFunc_face_Likeness_int_l2 l id face_at_1 next2 s.1 s.2) l (fun x => decide (x.Id < id)) (fun i j hi hj hij h => by have := hp i j hi hj hij; simp at h ⊢; omega) (slices_BinarySearchFunc_face_Likeness_int_j1 l id face_at_1)
    (fun next i j h hij hj => by
      obtain ⟨f1, f2⟩ := half (x := (i : Int) + j) (by omega)
      rw [show ((i : Int) + j) / 2 = (((i + j) / 2 : Nat) : Int) by omega] at f1 f2
      simp only [slices_BinarySearchFunc_face_Likeness_int_l2]
      rw [decT (by omega), cnd_true, gI_ok (by omega), bnd_pure, f1, bnd_pure, f2, gAt_nat h, bnd_pure]
      unfold face_at_1
      by_cases hlt : l[(i + j) / 2].Id < id
      · rw [decT hlt, cnd_true, bnd_pure, decT (by omega), cnd_true, gI_ok (by omega), bnd_pure, if_pos rfl]
      · rw [decF hlt, cnd_false, if_neg (by simp)]
        by_cases hgt : id < l[(i + j) / 2].Id
        · rw [decT hgt, cnd_true, bnd_pure, decF (by omega), cnd_false]
        · rw [decF hgt, cnd_false, bnd_pure, decF (by omega), cnd_false])
    (fun next i hi => by
      simp only [slices_BinarySearchFunc_face_Likeness_int_l2]
      rw [decF (by omega), cnd_false])
  have hfix : face_at l id = bnd (slices_BinarySearchFunc_face_Likeness_int_j1 l id face_at_1 k) fun t8 => some (t8.1, t8.2) := by
    unfold face_at slices_BinarySearchFunc_face_Likeness_int
    rw [h4]
  unfold slices_BinarySearchFunc_face_Likeness_int_j1 at hfix
  have none_of : (∀ x ∈ l, x.Id ≠ id) → l.any (has id) = false := fun h => by
    rw [List.any_eq_false]; intro x hx; simp [has, h x hx]
  rcases Nat.lt_or_ge k l.length with hk | hk
  · rw [decT (by omega), cnd_true, gAt_nat hk, bnd_pure] at hfix
    unfold face_at_1 at hfix
    have hge := h3 k hk (Nat.le_refl _)
    simp at hge
    rw [decF (by omega), cnd_false] at hfix
    by_cases hgt : id < l[k].Id
    · rw [decT hgt, cnd_true, bnd_pure, bnd_pure] at hfix
      refine ⟨_, _, hfix, ?_, fun h => by simp at h⟩
      rw [none_of]; rfl
      intro x hx
      obtain ⟨j, hj, rfl⟩ := List.getElem_of_mem hx
      rcases Nat.lt_or_ge j k with h | h
      · have := h2 j hj h; simp at this; omega
      · rcases Nat.lt_or_ge k j with h' | h'
        · have := hp k j hk hj h'; omega
        · have : j = k := by omega
          subst this; omega
    · rw [decF hgt, cnd_false, bnd_pure, bnd_pure] at hfix
      have he : l[k].Id = id := by omega
      have hany : l.any (has id) = true := List.any_eq_true.2 ⟨_, List.getElem_mem hk, by simp [has, he]⟩
      refine ⟨_, _, hfix, by rw [hany]; rfl, fun _ => ?_⟩
      unfold idx
      have : l.findIdx? (has id) = some k := by
        rw [List.findIdx?_eq_some_iff_getElem]
        refine ⟨hk, by simp [has, he], fun j hj => ?_⟩
        have := h2 j (by omega) hj
        simp at this
        simp [has]; omega
      rw [this]
  · rw [decF (by omega), cnd_false, bnd_pure] at hfix
    refine ⟨_, _, hfix, ?_, fun h => by simp at h⟩
    rw [none_of]
    intro x hx
    obtain ⟨j, hj, rfl⟩ := List.getElem_of_mem hx
    have := h2 j hj (by omega); simp at this; omega

end Go.M

namespace Go.Lx
open Go Go.Vc Go.Md

section
variable {α : Type} {E : Nat} {en : α → List Value} {h h' : Heap}
def slvG (u : Option Addr × Nat) (xs : List α) : Value := .slice u.1 xs.length u.2
def rowsG (us : List (Option Addr × Nat)) (xss : List (List α)) : List (List Value) := List.zipWith (fun u xs => [slvG u xs]) us xss
def GrdE (E : Nat) (en : α → List Value) (h : Heap) (c : List Value) (xs : List α) (bs : List Nat) : Prop := ∃ u, c = [slvG u xs] ∧ RowP h E 1 (slvG u xs) (xs.map en) ∧ bs = (slvG u xs).ownBlock.toList
theorem GrdE.mono {c : List Value} {x : List α} {b : List Nat} : GrdE E en h c x b → (∀ q ∈ b, ∀ o, h q = some o → h' q = some o) → GrdE E en h' c x b := by
  rintro ⟨v, rfl, r, rfl⟩ k
  exact ⟨v, rfl, r.mono fun b hb o ho => k b (by rw [hb]; exact List.mem_singleton.2 rfl) o ho, rfl⟩
def kidsC (E : Nat) (en : α → List Value) (us : List (Option Addr × Nat)) (xss : List (List α)) : Chunk := ownC fun h bs => us.length = xss.length ∧ KidsG (GrdE E en) h (rowsG us xss) xss bs
theorem rowsG_at {us : List (Option Addr × Nat)} {xss : List (List α)} {k : Nat} {u : Option Addr × Nat} {xs : List α} (hu : us[k]? = some u) (hx : xss[k]? = some xs) : (rowsG us xss)[k]? = some [slvG u xs] := by
  unfold rowsG; rw [List.getElem?_zipWith, hu, hx]
theorem rowsG_set {us : List (Option Addr × Nat)} {xss : List (List α)} {k : Nat} {u : Option Addr × Nat} {xs : List α} : rowsG (us.set k u) (xss.set k xs) = (rowsG us xss).set k [slvG u xs] := by
  unfold rowsG
  apply List.ext_getElem?
  intro i
  simp only [List.getElem?_zipWith, List.getElem?_set, List.length_zipWith]
  by_cases hki : k = i
  · subst hki
    by_cases h1 : k < us.length <;> by_cases h2 : k < xss.length <;> simp [h1, h2]
    all_goals first | rfl | omega
  · simp [hki]
theorem rowsG_same {us : List (Option Addr × Nat)} {xss : List (List α)} {k : Nat} {xs ys : List α} (hx : xss[k]? = some xs) (hl : ys.length = xs.length) : rowsG us (xss.set k ys) = rowsG us xss := by
  unfold rowsG
  apply List.ext_getElem?
  intro i
  simp only [List.getElem?_zipWith, List.getElem?_set]
  by_cases hki : k = i
  · subst hki
    have h2 : k < xss.length := by
      rcases Nat.lt_or_ge k xss.length with h | h
      · exact h
      · rw [List.getElem?_eq_none h] at hx; cases hx
    rw [hx]
    simp [h2]
    cases us[k]? <;> simp [slvG, hl]
  · simp [hki]
theorem rowsG_len {us : List (Option Addr × Nat)} {xss : List (List α)} (h : us.length = xss.length) : (rowsG us xss).length = xss.length := by
  unfold rowsG; rw [List.length_zipWith, h, Nat.min_self]
theorem set_self {β : Type} {l : List β} {k : Nat} {c : β} (h : l[k]? = some c) : l.set k c = l := by
  apply List.ext_getElem?
  intro i
  rw [List.getElem?_set]
  by_cases hki : k = i
  · subst hki
    obtain ⟨h1, h2⟩ := List.getElem?_eq_some_iff.1 h
    simp [h1, h2]
  · simp [hki]
theorem imp_kids0 (n : Nat) : Imp empC (kidsC E en (List.replicate n (none, 0)) (List.replicate n ([] : List α))) := imp_emptyOwn ⟨by simp, by
  induction n with
  | zero => exact rfl
  | succ n ih => exact ⟨[], [], ⟨(none, 0), rfl, ⟨by simp, .inl ⟨rfl, rfl⟩⟩, rfl⟩, ih, rfl⟩⟩
end
section
variable {α : Type} {T : Heap → List Value → α → List Nat → Prop}
theorem KidsG.put : ∀ {css : List (List Value)} {xs : List α} {bs : List Nat} (k : Nat) {h h' : Heap} {c' : List Value} {x' : α} {b' : List Nat}, KidsG T h css xs bs → k < xs.length → bs.Nodup → b'.Nodup → (∀ q ∈ b', q ∉ bs) →
    (∀ c x b, T h c x b → (∀ q ∈ b, ∀ o, h q = some o → h' q = some o) → T h' c x b) → (∀ q ∈ bs, ∀ o, h q = some o → h' q = some o) → T h' c' x' b' → ∃ bs', KidsG T h' (css.set k c') (xs.set k x') bs' ∧ bs'.Nodup ∧ ∀ q ∈ bs', q ∈ bs ∨ q ∈ b'
  | [], [], _, k, _, _, _, _, _, _, hk, _, _, _, _, _, _ => by simp at hk
  | [], _ :: _, _, _, _, _, _, _, _, k, _, _, _, _, _, _, _ => k.elim
  | _ :: _, [], _, _, _, _, _, _, _, k, _, _, _, _, _, _, _ => k.elim
  | c0 :: css, x0 :: xs, bs, k, h, h', c', x', b', ⟨b1, b2, k1, k2, k3⟩, hk, hn, hn', hd, hT, hm, ht => by
    subst k3
    obtain ⟨n1, n2, n3⟩ := List.nodup_append.1 hn
    cases k with
    | zero =>
      refine ⟨b' ++ b2, ⟨b', b2, ht, k2.map hT fun q hq => hm q (List.mem_append_right _ hq), rfl⟩, List.nodup_append.2 ⟨hn', n2, fun a ha b hb e => hd a ha (List.mem_append_right _ (e ▸ hb))⟩, fun q hq => ?_⟩
      rcases List.mem_append.1 hq with h | h
      · exact .inr h
      · exact .inl (List.mem_append_right _ h)
    | succ k =>
      obtain ⟨bs', g1, g2, g3⟩ := KidsG.put k k2 (by simpa using hk) n2 hn' (fun q hq h => hd q hq (List.mem_append_right _ h)) hT (fun q hq => hm q (List.mem_append_right _ hq)) ht
      refine ⟨b1 ++ bs', ⟨b1, bs', hT _ _ _ k1 fun q hq => hm q (List.mem_append_left _ hq), g1, rfl⟩, List.nodup_append.2 ⟨n1, g2, fun a ha b hb e => ?_⟩, fun q hq => ?_⟩
      · subst e
        rcases g3 a hb with h | h
        · exact n3 a ha a h rfl
        · exact hd a h (List.mem_append_left _ ha)
      · rcases List.mem_append.1 hq with h | h
        · exact .inl (List.mem_append_left _ h)
        · exact (g3 q h).imp (List.mem_append_right _) id
end
section
variable {α : Type} {E : Nat} {en : α → List Value}
theorem imp_kidPut {us : List (Option Addr × Nat)} {xss : List (List α)} {k n : Nat} {u : Option Addr × Nat} {xs : List α} (hk : k < xss.length) (hn : n = xs.length) :
    Imp (bothC (kidsC E en us xss) (rowV E 1 (.slice u.1 n u.2) n (xs.map en))) (kidsC E en (us.set k u) (xss.set k xs)) := ⟨fun S w => by
  subst hn
  rintro ⟨S1, S2, ⟨h1, ⟨b1, ⟨hl, f1⟩, n1, d1⟩, p1⟩, r2, s1, s2, sd⟩
  obtain ⟨r, hn, hb⟩ := RowP.of r2
  have q1 : ∀ b o, h1 b = some o → S1 b ∧ w.heap[b]? = some o := fun b o h => (p1.2 b o h).elim (fun h => by cases h) id
  have l1 : ∀ b o, h1 b = some o → restr w S b = some o := fun b o h => restr_some.2 ⟨s1 b (q1 b o h).1, (q1 b o h).2⟩
  have hr : RowP (restr w S) E 1 (slvG u xs) (xs.map en) := r.mono fun b _ o ho => restr_mono s2 b o ho
  obtain ⟨bs', g1, g2, g3⟩ := KidsG.put (h' := restr w S) (c' := [slvG u xs]) (x' := xs) (b' := (slvG u xs).ownBlock.toList) k f1 hk n1 own_nodup (fun q hq hq1 => by
    obtain ⟨o, ho⟩ := d1 q hq1
    have : (slvG u xs).ownBlock = some q := by
      cases hh : (slvG u xs).ownBlock with
      | none => rw [hh] at hq; cases hq
      | some z => rw [hh] at hq; simp at hq; rw [hq]
    exact sd q (q1 q o ho).1 (hb q this)) (fun c x b t m => t.mono m) (fun q _ o ho => l1 q o ho) ⟨u, rfl, hr, rfl⟩
  refine ⟨restr w S, ⟨bs', ⟨by simpa using hl, by rw [rowsG_set]; exact g1⟩, g2, fun q hq => ?_⟩, restr_pool w S⟩
  rcases g3 q hq with h | h
  · obtain ⟨o, ho⟩ := d1 q h; exact ⟨o, l1 q o ho⟩
  · have : (slvG u xs).ownBlock = some q := by
      cases hh : (slvG u xs).ownBlock with
      | none => rw [hh] at h; cases h
      | some z => rw [hh] at h; simp at h; rw [h]
    rcases hr.2 with ⟨e, _⟩ | ⟨g, cap, cur, e, hg, _⟩
    · rw [e] at this; cases this
    · rw [e] at this
      simp [Value.ownBlock] at this
      subst this
      exact ⟨_, hg⟩⟩
end
section
variable {P : Program} {cx : Cx} {e : Env} {L : List Chunk} {ty : TypeId} {pos : String} {af : Array Edge} {g : Option (Nat × Bool)}
variable {α : Type} {E : Nat} {en : α → List Value}
theorem kidRow {w : World} {i k : Nat} {us : List (Option Addr × Nat)} {xss : List (List α)} {u : Option Addr × Nat} {xs : List α} (hS : Sat cx w L) (hL : L[i]? = some (kidsC E en us xss)) (hu : us[k]? = some u) (hx : xss[k]? = some xs) : Row w u.1 1 (xs.map en) := by
  obtain ⟨S, ⟨hp, ⟨bs, ⟨hl, f⟩, hn, hd⟩, hpl⟩, _⟩ := hS.at hL
  obtain ⟨b, ⟨u', e, r, _⟩, _⟩ := f.at k (rowsG_at hu hx) hx hn
  have key : ∀ b o, hp b = some o → S b ∧ w.heap[b]? = some o := fun b o h => (hpl.2 b o h).elim (fun h => by cases h) id
  have e : slvG u xs = slvG u' xs := by simpa using e
  have hrow := RowP.row (S := S) (w := w) r fun b hb => ⟨by
    rcases r.2 with ⟨e, _⟩ | ⟨g, cap, cur, e, hg, _⟩
    · rw [e] at hb; cases hb
    · rw [e] at hb
      simp [Value.ownBlock] at hb
      subst hb
      exact (key _ _ hg).1, fun o ho => (key b o ho).2⟩
  rw [← e] at hrow
  obtain ⟨⟨h1, h2, h3⟩, _⟩ := hrow
  rw [List.length_map] at h1 h2
  exact ownsRow_Row h1 (List.length_map _) h3
theorem turns_storeKid {i k T j : Nat} {A X : Operand} {x : Value} {us : List (Option Addr × Nat)} {xss : List (List α)} {u : Option Addr × Nat} {xs : List α} {y : α} {rds : List Nat} (hs : ∀ w, (sizeOf T).run P w = .ok 1 w) (ha : ev e A = ptrAt u.1 (j * 1)) (hx : ev e X = x) (hc : x.cells.toList = en y)
    (hone : (en y).all Value.oneCell' = true) (hen : ∀ z, (en z).length = 1) (hL : L[i]? = some (kidsC E en us xss)) (hu : us[k]? = some u) (hk : xss[k]? = some xs) (hj : j < xs.length) :
    Turns P cx e ⟨none, .store T A X, ty, pos, af, g⟩ L i rds (fun _ : Unit => undef) (fun _ => kidsC E en us (xss.set k (xs.set j y))) := fun w L' hF hS _ hi' => by
  have hL' := (hi' i (.inr rfl)).trans hL
  have hrun : ∀ (S1 : Nat → Prop), (kidsC E en us xss).P S1 w → (∀ b, S1 b → b < w.heap.size) → ∃ w', (execOp (ev e) ⟨none, .store T A X, ty, pos, af, g⟩).run P w = .ok .skip w' ∧ Turn w w' S1 (kidsC E en us (xss.set k (xs.set j y))) := fun S1 h hlt => by
    obtain ⟨hp, ⟨bs, ⟨hl, f⟩, hn, hd⟩, hpl⟩ := h
    have key : ∀ b o, hp b = some o → S1 b ∧ w.heap[b]? = some o := fun b o h => (hpl.2 b o h).elim (fun h => by cases h) id
    obtain ⟨b, ⟨u', e1, r, eb⟩, hsub, hbn, hput⟩ := f.at k (rowsG_at hu hk) hk hn
    have e1 : slvG u xs = slvG u' xs := by simpa using e1
    rw [← e1] at r eb
    have hown : ∀ q, (slvG u xs).ownBlock = some q → q ∈ b := fun q hq => by rw [eb, hq]; exact List.mem_singleton.2 rfl
    have hrow := RowP.row (S := S1) (w := w) r fun q hq => by
      obtain ⟨o, ho⟩ := hd q (hsub q (hown q hq))
      exact ⟨(key q o ho).1, fun o ho => (key q o ho).2⟩
    obtain ⟨⟨h1, h2, h3⟩, _⟩ := hrow
    rw [List.length_map] at h1 h2
    have hy : (xs.map en)[j]? = some (en xs[j]) := by simp [hj]
    have hw : wr (en xs[j]) 0 (en y) = some (en y) := by
      have h1 := hen xs[j]
      have h2 := hen y
      match hz : en xs[j], hz' : en y with
      | [_], [_] => rfl
      | [], _ => rw [hz] at h1; cases h1
      | _ :: _ :: _, _ => rw [hz] at h1; simp at h1
      | _, [] => rw [hz'] at h2; cases h2
      | _, _ :: _ :: _ => rw [hz'] at h2; simp at h2
    obtain ⟨w', hr, g1, g2⟩ := run_storeR (P := P) (ty := ty) (pos := pos) (af := af) (g := g) (E := E) (j := 0) (i := j) (k := j * 1) (a := u.1) (c := u.2) (m := xs.length) hs ha (by simp) hx hc (hen y) rfl hone hy hw h1 (by simp) h3
    refine ⟨w', hr, ?_⟩
    have hkeep : ∀ q, (slvG u xs).ownBlock ≠ some q → q < w.heap.size → w'.heap[q]? = w.heap[q]? := fun q hq hql => g2.block q hql fun h => hq h.symm
    have hsame : ∀ q, (slvG u xs).ownBlock ≠ some q → ∀ o, w.heap[q]? = some o → w'.heap[q]? = some o := fun q hq o ho => (hkeep q hq (Array.getElem?_eq_some_iff.1 ho).1).trans ho
    have hset : (xs.map en).set j (en y) = (xs.set j y).map en := List.map_set.symm
    rw [hset] at g1
    have hbS : ∀ q ∈ bs, S1 q := fun q hq => by
      obtain ⟨o, ho⟩ := hd q hq
      exact (key q o ho).1
    have hrow' : (rowV E 1 (.slice u.1 xs.length u.2) xs.length ((xs.set j y).map en)).P (fun q => (slvG u xs).ownBlock = some q) w' := ⟨⟨g1, by simp, fun x hx => by obtain ⟨z, _, rfl⟩ := List.mem_map.1 hx; exact hen z⟩, fun q hq => hq⟩
    obtain ⟨r', _, _⟩ := RowP.of hrow'
    have hle : ∀ q, (slvG u xs).ownBlock = some q → S1 q := fun q hq => hbS q (hsub q (hown q hq))
    have hnb : ∀ q ∈ bs, q ∉ b → (slvG u xs).ownBlock ≠ some q := fun q _ hqb h => hqb (hown q h)
    have hmono : ∀ q ∈ bs, q ∉ b → ∀ o, hp q = some o → restr w' S1 q = some o := fun q hq hqb o ho => restr_some.2 ⟨hbS q hq, hsame q (hnb q hq hqb) o (key q o ho).2⟩
    have r2 : RowP (restr w' S1) E 1 (slvG u (xs.set j y)) ((xs.set j y).map en) := by
      have : slvG u (xs.set j y) = .slice u.1 xs.length u.2 := by unfold slvG; rw [List.length_set]
      rw [this]
      exact r'.mono fun q hq o ho => restr_mono hle q o ho
    have fin := hput (GrdE E en) (restr w' S1) [slvG u xs] (xs.set j y) (fun c x b t m => t.mono m) hmono ⟨u, by unfold slvG; rw [List.length_set], r2, by rw [eb]; unfold slvG; rw [List.length_set]⟩
    rw [set_self (rowsG_at hu hk), ← rowsG_same hk (ys := xs.set j y) (by simp)] at fin
    refine ⟨g2.os, g2.tape, g2.output, g2.size, fun q hq hn => hkeep q (fun h => hn (hle q h)) hq, S1, ⟨restr w' S1, ⟨bs, ⟨by simpa using hl, fin⟩, hn, fun q hq => ?_⟩, restr_pool w' S1⟩, fun q hq => ⟨Nat.lt_of_lt_of_le (hlt q hq) g2.size, .inl hq⟩⟩
    by_cases hqb : q ∈ b
    · have hq1 : (slvG u xs).ownBlock = some q := by
        rw [eb] at hqb
        cases hh : (slvG u xs).ownBlock with
        | none => rw [hh] at hqb; cases hqb
        | some z => rw [hh] at hqb; simp at hqb; rw [hqb]
      rcases r2.2 with ⟨e, _⟩ | ⟨g, cap, cur, e, hg, _⟩
      · have : (slvG u xs).ownBlock = (slvG u (xs.set j y)).ownBlock := by unfold slvG; rw [List.length_set]
        rw [this, e] at hq1; cases hq1
      · have : (slvG u xs).ownBlock = (slvG u (xs.set j y)).ownBlock := by unfold slvG; rw [List.length_set]
        rw [this, e] at hq1
        simp [Value.ownBlock] at hq1
        subst hq1
        exact ⟨_, hg⟩
    · obtain ⟨o, ho⟩ := hd q hq
      exact ⟨o, hmono q hq hqb o ho⟩
  obtain ⟨S0, hC, hlt⟩ := hS.at hL'
  obtain ⟨w', hr, ht⟩ := hrun S0 hC (fun b hb => (hlt b hb).1)
  have hF' := hF.turn ht fun b hs => (hlt b hs).2
  have hS' := hS.turnAt hF hL' (w' := w') (C := kidsC E en us (xss.set k (xs.set j y))) (fun S1 hp1 hlt1 => by
    obtain ⟨w1, hr1, ht1⟩ := hrun S1 hp1 fun b hb => (hlt1 b hb).1
    rw [hr] at hr1
    cases hr1
    exact ht1) ht.size
  unfold RunsTo
  rw [hr]
  exact ⟨(), rfl, hF', hS'⟩
end
end Go.Lx
namespace Go.Lx
open Go Go.Vc Go.Md
theorem map_idC (l : List (List Value)) : l.map idC = l := List.map_id' l
section
variable {P : Program} {cx : Cx} {e : Env} {L : List Chunk} {ops : Array Oper} {F : Env → List Chunk → Prop} {rest : List Oper} {ss : List Kd}
theorem rowOfI {w : World} {i E sz n c : Nat} {a : Option Addr} {xs : List (List Value)} (hS : Sat cx w L) (hL : L[i]? = some (rowV E sz (.slice a n c) n xs)) : Row w a sz (xs.map idC) := by
  rw [map_idC]; exact rowOf hS hL
theorem d_storeK {o : Oper} {i : Nat} {C : Chunk} (h : Turns P cx e o L i [] (fun _ : Unit => undef) (fun _ => C)) (hw : want ops o e = true) (hd : o.dst = none) (k : Sq P cx ops F rest ss e (L.set i C)) : Sq P cx ops F (o :: rest) (Kd.sr i C :: ss) e L := by
  refine .take hw ⟨undef, rfl⟩ ⟨fun w L' hF hS hl hi => ?_⟩ fun v' hv' => ?_
  · refine (h w L' hF hS hl fun j hj => hi j (by simpa [Kd.sr, Kd.rds, Kd.wrs] using hj)).mono fun v w' ⟨x, hv, hF', hS'⟩ => ?_
    subst hv
    exact ⟨rfl, hF', hS'⟩
  · obtain rfl : v' = undef := hv'
    show Sq P cx ops F rest ss (putD e o.dst undef) (L.set i C)
    rw [hd]
    exact k
end
end Go.Lx
namespace Go.Lx
open Go Go.Vc Go.Md
section
variable {P : Program} {cx : Cx} {e : Env} {L : List Chunk} {ty : TypeId} {pos : String} {af : Array Edge} {g : Option (Nat × Bool)}
theorem turns_storeRow {i k T m c E : Nat} {A X : Operand} {x : Value} {a : Option Addr} {xs : List (List Value)} {rds : List Nat} (hs : ∀ w, (sizeOf T).run P w = .ok 1 w) (ha : ev e A = ptrAt a (k * 1)) (hx : ev e X = x) (hc : x.cells.toList = [x]) (hone : x.oneCell' = true)
    (hL : L[i]? = some (rowV E 1 (.slice a m c) m xs)) (hk : k < xs.length) :
    Turns P cx e ⟨none, .store T A X, ty, pos, af, g⟩ L i rds (fun _ : Unit => undef) (fun _ => rowV E 1 (.slice a m c) m (xs.set k [x])) := fun w L' hF hS _ hi' => by
  have hL' := (hi' i (.inr rfl)).trans hL
  obtain ⟨S0, ⟨⟨ho, hlen, hlx⟩, hob⟩, _⟩ := hS.at hL'
  have hy : xs[k]? = some xs[k] := List.getElem?_eq_getElem hk
  have hv : wr xs[k] 0 [x] = some [x] := by
    have h1 := hlx xs[k] (List.getElem_mem hk)
    match hz : xs[k] with
    | [_] => rfl
    | [] => rw [hz] at h1; cases h1
    | _ :: _ :: _ => rw [hz] at h1; simp at h1
  obtain ⟨w', hr, h2, h3⟩ := run_storeR (P := P) (ty := ty) (pos := pos) (af := af) (g := g) (i := k) (j := 0) hs ha (by simp) hx hc rfl rfl (by simp [hone]) hy hv ho hlen hlx
  obtain ⟨hF', hS'⟩ := hS.turnOf hF hL' (C := rowV E 1 (.slice a m c) m (xs.set k [x])) fun S1 hp => turn_append hp.2 h2 h3 (.inl rfl) (by simp [hlen]) fun z hz => by
    rcases List.mem_or_eq_of_mem_set hz with h | h
    · exact hlx z h
    · subst h; rfl
  unfold RunsTo
  rw [hr]
  exact ⟨(), rfl, hF', hS'⟩
end
end Go.Lx

namespace Go.Lx
open Go Go.Vc Go.Md

section
variable {α : Type} {T : Heap → List Value → α → List Nat → Prop}
theorem KidsG.take : ∀ {css : List (List Value)} {xs : List α} {bs : List Nat} (k : Nat) {h : Heap} {c : List Value} {x : α}, KidsG T h css xs bs → css[k]? = some c → xs[k]? = some x → bs.Nodup →
    ∃ b bs', T h c x b ∧ b.Nodup ∧ (∀ q ∈ b, q ∈ bs) ∧ bs'.Nodup ∧ (∀ q ∈ bs', q ∈ bs ∧ q ∉ b) ∧ ∀ (h' : Heap) (c' : List Value) (x' : α), (∀ c x b, T h c x b → (∀ q ∈ b, ∀ o, h q = some o → h' q = some o) → T h' c x b) → (∀ q ∈ bs', ∀ o, h q = some o → h' q = some o) → T h' c' x' [] →
      KidsG T h' (css.set k c') (xs.set k x') bs'
  | [], [], _, _, _, _, _, _, hc, _, _ => by cases hc
  | [], _ :: _, _, _, _, _, _, k, _, _, _ => k.elim
  | _ :: _, [], _, _, _, _, _, k, _, _, _ => k.elim
  | c0 :: css, x0 :: xs, bs, k, h, c, x, ⟨b1, b2, k1, k2, k3⟩, hc, hx, hn => by
    subst k3
    obtain ⟨n1, n2, n3⟩ := List.nodup_append.1 hn
    cases k with
    | zero =>
      cases hc; cases hx
      exact ⟨b1, b2, k1, n1, fun q hq => List.mem_append_left _ hq, n2, fun q hq => ⟨List.mem_append_right _ hq, fun h => n3 q h q hq rfl⟩, fun h' c' x' hT ha t => ⟨[], b2, t, k2.map (fun c x b t k => hT c x b t k) ha, rfl⟩⟩
    | succ k =>
      obtain ⟨b, bs', t1, t2, t3, t4, t5, t6⟩ := KidsG.take k k2 hc hx n2
      refine ⟨b, b1 ++ bs', t1, t2, fun q hq => List.mem_append_right _ (t3 q hq), List.nodup_append.2 ⟨n1, t4, fun a ha q hq e => n3 a ha q (t5 q hq).1 e⟩, fun q hq => ?_, fun h' c' x' hT ha t => ⟨b1, bs', hT _ _ _ k1 fun q hq => ha q (List.mem_append_left _ hq), t6 h' c' x' hT (fun q hq => ha q (List.mem_append_right _ hq)) t, rfl⟩⟩
      rcases List.mem_append.1 hq with h | h
      · exact ⟨List.mem_append_left _ h, fun hb => n3 q h q (t3 q hb) rfl⟩
      · exact ⟨List.mem_append_right _ (t5 q h).1, (t5 q h).2⟩
theorem KidsG.erase : ∀ {css : List (List Value)} {xs : List α} {bs : List Nat} (k : Nat) {h : Heap}, KidsG T h css xs bs → bs.Nodup → ∃ bs', bs'.Nodup ∧ (∀ q ∈ bs', q ∈ bs) ∧ KidsG T h (css.eraseIdx k) (xs.eraseIdx k) bs'
  | [], [], bs, _, _, k, hn => ⟨bs, hn, fun _ h => h, k⟩
  | [], _ :: _, _, _, _, k, _ => k.elim
  | _ :: _, [], _, _, _, k, _ => k.elim
  | c0 :: css, x0 :: xs, bs, k, h, ⟨b1, b2, k1, k2, k3⟩, hn => by
    subst k3
    obtain ⟨n1, n2, n3⟩ := List.nodup_append.1 hn
    cases k with
    | zero => exact ⟨b2, n2, fun q hq => List.mem_append_right _ hq, k2⟩
    | succ k =>
      obtain ⟨bs', t1, t2, t3⟩ := KidsG.erase k k2 n2
      refine ⟨b1 ++ bs', List.nodup_append.2 ⟨n1, t1, fun a ha q hq e => n3 a ha q (t2 q hq) e⟩, fun q hq => ?_, b1, bs', k1, t3, rfl⟩
      rcases List.mem_append.1 hq with h | h
      · exact List.mem_append_left _ h
      · exact List.mem_append_right _ (t2 q h)
end
section
variable {α : Type} {E : Nat} {en : α → List Value}
def gkC (E : Nat) (en : α → List Value) (ms : List (Int × Value)) (xs : List (Int × List α)) : Chunk := ownC fun h bs => KidsG (GrE E en) h (ms.map pcG) xs bs
theorem imp_gk0 : Imp empC (gkC E en [] ([] : List (Int × List α))) := imp_emptyOwn rfl
theorem imp_grp {b : Nat} {ms : List (Int × Value)} {xs : List (Int × List α)} : Imp (bothC (mapC fkG id b ms) (gkC E en ms xs)) (grpC E en b xs) := ⟨fun _ _ h => ⟨ms, h⟩⟩
theorem own_mem {v : Value} {q : Nat} (h : q ∈ v.ownBlock.toList) : v.ownBlock = some q := by
  cases hh : v.ownBlock with
  | none => rw [hh] at h; cases h
  | some z => rw [hh] at h; simp at h; rw [h]
theorem RowP.lies {h : Heap} {v : Value} {css : List (List Value)} (r : RowP h E 1 v css) {q : Nat} (hq : v.ownBlock = some q) : ∃ o, h q = some o := by
  rcases r.2 with ⟨e, _⟩ | ⟨g, cap, cur, e, hg, _⟩
  · rw [e] at hq; cases hq
  · rw [e] at hq
    simp [Value.ownBlock] at hq
    subst hq
    exact ⟨_, hg⟩
theorem RowP.slice {h : Heap} {v : Value} {css : List (List Value)} (r : RowP h E 1 v css) : ∃ p : Option Addr × Nat, v = .slice p.1 css.length p.2 := by
  rcases r.2 with ⟨e, e2⟩ | ⟨g, cap, cur, e, hg, _⟩
  · exact ⟨(none, 0), by rw [e, e2]; rfl⟩
  · exact ⟨(some ⟨g, 0, none⟩, cap), e⟩
theorem imp_grpTake {ms : List (Int × Value)} {xs : List (Int × List α)} {j : Nat} {k : Int} {v : Value} {ys : List α} (hm : ms[j]? = some (k, v)) (hx : xs[j]? = some (k, ys)) :
    Imp (gkC E en ms xs) (bothC (gkC E en (ms.set j (k, .slice none 0 0)) (xs.set j (k, []))) (rowV E 1 v ys.length (ys.map en))) := ⟨fun S w ⟨hp, ⟨bs, f, hn, hd⟩, hpl⟩ => by
  have key : ∀ b o, hp b = some o → S b ∧ w.heap[b]? = some o := fun b o h => (hpl.2 b o h).elim (fun h => by cases h) id
  have hc : (ms.map pcG)[j]? = some (pcG (k, v)) := by simp [hm]
  obtain ⟨b, bs', ⟨v', e, r, eb⟩, hbn, hbs, hn', hd', hput⟩ := f.take j hc hx hn
  have e : v = v' := by simpa [pcG] using e
  subst e
  have hS2 : ∀ q ∈ bs', (S q ∧ v.ownBlock ≠ some q) := fun q hq => by
    obtain ⟨o, ho⟩ := hd q (hd' q hq).1
    exact ⟨(key q o ho).1, fun h => (hd' q hq).2 (by rw [eb, h]; exact List.mem_singleton.2 rfl)⟩
  have hmono : ∀ q ∈ bs', ∀ o, hp q = some o → restr w (fun q => S q ∧ v.ownBlock ≠ some q) q = some o := fun q hq o ho => restr_some.2 ⟨hS2 q hq, (key q o ho).2⟩
  have fin := hput (restr w fun q => S q ∧ v.ownBlock ≠ some q) (pcG (k, .slice none 0 0)) (k, []) (fun c x b t m => t.mono m) hmono ⟨.slice none 0 0, rfl, ⟨by simp, .inl ⟨rfl, rfl⟩⟩, rfl⟩
  rw [← List.map_set] at fin
  have hrow := RowP.row (S := fun q => v.ownBlock = some q) (w := w) r fun q hq => ⟨hq, fun o ho => (key q o ho).2⟩
  rw [List.length_map] at hrow
  refine ⟨fun q => S q ∧ v.ownBlock ≠ some q, fun q => v.ownBlock = some q, ⟨restr w fun q => S q ∧ v.ownBlock ≠ some q, ⟨bs', fin, hn', fun q hq => ?_⟩, restr_pool _ _⟩, hrow, fun q h => h.1, fun q h => ?_, fun q h h' => h.2 h'⟩
  · obtain ⟨o, ho⟩ := hd q (hd' q hq).1
    exact ⟨o, hmono q hq o ho⟩
  · obtain ⟨o, ho⟩ := RowP.lies r h
    exact (key q o ho).1⟩
theorem imp_grpPut {ms : List (Int × Value)} {xs : List (Int × List α)} {j : Nat} {k : Int} {v : Value} {ys : List α} {n : Nat} (hj : j < xs.length) (hn : n = ys.length) :
    Imp (bothC (gkC E en ms xs) (rowV E 1 v n (ys.map en))) (gkC E en (ms.set j (k, v)) (xs.set j (k, ys))) := ⟨fun S w => by
  subst hn
  rintro ⟨S1, S2, ⟨h1, ⟨b1, f1, n1, d1⟩, p1⟩, r2, s1, s2, sd⟩
  obtain ⟨r, hn, hb⟩ := RowP.of r2
  have q1 : ∀ b o, h1 b = some o → S1 b ∧ w.heap[b]? = some o := fun b o h => (p1.2 b o h).elim (fun h => by cases h) id
  have l1 : ∀ b o, h1 b = some o → restr w S b = some o := fun b o h => restr_some.2 ⟨s1 b (q1 b o h).1, (q1 b o h).2⟩
  have hr : RowP (restr w S) E 1 v (ys.map en) := r.mono fun b _ o ho => restr_mono s2 b o ho
  obtain ⟨bs', g1, g2, g3⟩ := KidsG.put (h' := restr w S) (c' := pcG (k, v)) (x' := (k, ys)) (b' := v.ownBlock.toList) j f1 hj n1 own_nodup (fun q hq hq1 => by
    obtain ⟨o, ho⟩ := d1 q hq1
    exact sd q (q1 q o ho).1 (hb q (own_mem hq))) (fun c x b t m => t.mono m) (fun q _ o ho => l1 q o ho) ⟨v, rfl, hr, rfl⟩
  rw [← List.map_set] at g1
  refine ⟨restr w S, ⟨bs', g1, g2, fun q hq => ?_⟩, restr_pool w S⟩
  rcases g3 q hq with h | h
  · obtain ⟨o, ho⟩ := d1 q h; exact ⟨o, l1 q o ho⟩
  · exact RowP.lies hr (own_mem h)⟩
theorem imp_grpPush {ms : List (Int × Value)} {xs : List (Int × List α)} {k : Int} {v : Value} {ys : List α} {n : Nat} (hn : n = ys.length) :
    Imp (bothC (gkC E en ms xs) (rowV E 1 v n (ys.map en))) (gkC E en (ms ++ [(k, v)]) (xs ++ [(k, ys)])) :=
  imp_trans (imp_bothM (Imp.refl _) imp_rowOwn) (own_both (fun h h' bs m f => f.agree (fun c x b t k => t.mono k) fun q _ o ho => m q o ho) (fun h h' bs m f => ⟨f.1.mono fun b _ o ho => m b o ho, f.2⟩)
    fun h b1 b2 f g => by
      rw [List.map_append]
      exact f.snoc ⟨v, rfl, g.1, g.2.2⟩)
theorem imp_grpDel {ms : List (Int × Value)} {xs : List (Int × List α)} (j : Nat) : Imp (gkC E en ms xs) (gkC E en (ms.eraseIdx j) (xs.eraseIdx j)) := ⟨fun S w ⟨hp, ⟨bs, f, hn, hd⟩, hpl⟩ => by
  obtain ⟨bs', n', s', f'⟩ := f.erase j hn
  refine ⟨hp, ⟨bs', ?_, n', fun q hq => hd q (s' q hq)⟩, hpl⟩
  have : (ms.eraseIdx j).map pcG = (ms.map pcG).eraseIdx j := by
    have E : ∀ {α β : Type} (f : α → β) (l : List α) (j : Nat), (l.eraseIdx j).map f = (l.map f).eraseIdx j := by
      intro α β f l
      induction l with
      | nil => intro j; simp
      | cons x l ih => intro j; cases j <;> simp [ih]
    exact E _ _ _
  rw [this]; exact f'⟩
end
section
variable {cx : Cx} {L : List Chunk} {α : Type} {E : Nat} {en : α → List Value} {K : Env → World → Prop} {e : Env}
theorem gkRow {w : World} {i j : Nat} {ms : List (Int × Value)} {xs : List (Int × List α)} {k : Int} {p : Option Addr × Nat} {ys : List α} (hS : Sat cx w L) (hL : L[i]? = some (gkC E en ms xs)) (hm : ms[j]? = some (k, .slice p.1 ys.length p.2)) (hx : xs[j]? = some (k, ys)) : Row w p.1 1 (ys.map en) := by
  obtain ⟨S, h, _⟩ := hS.at hL
  obtain ⟨S1, S2, _, h2, _⟩ := (imp_grpTake hm hx).out _ _ h
  obtain ⟨⟨h1, h2, h3⟩, _⟩ := h2
  exact ownsRow_Row h1 (List.length_map _) h3
theorem c_gk (i : Nat) {ms : List (Int × Value)} {xs : List (Int × List α)} (hi : L[i]? = some (gkC E en ms xs)) (k : ms.map (·.1) = xs.map (·.1) → (∀ (j : Nat) (p : Int × Value) (x : Int × List α), ms[j]? = some p → xs[j]? = some x → ∃ q : Option Addr × Nat, p.2 = .slice q.1 x.2.length q.2) → At cx K e L) : At cx K e L :=
  ⟨fun w hF hS => by
    obtain ⟨S, ⟨hp, ⟨bs, f, _⟩, _⟩, _⟩ := hS.at hi
    obtain ⟨g1, g2⟩ := grp_one f
    exact (k g1 fun j p x hp hx => by
      obtain ⟨q, e⟩ := (g2 j p x hp hx).slice
      exact ⟨q, by rw [e, List.length_map]⟩).out w hF hS⟩
end
end Go.Lx

namespace Go.Proofs.Ytfihhlfkoghjeaa
open Go Go.Vc Go.Md Go.M Go.Lx
set_option maxRecDepth 100000
set_option maxHeartbeats 400000
set_option linter.unusedVariables false

theorem of_pick {g : List (Int × List Int)} {n r : Int} (H : face_groups_of g n = some r) : (∀ p ∈ g, n ∈ p.2 → p.1 = r) ∧ ((∀ p ∈ g, n ∉ p.2) → r = -1) := by
  unfold face_groups_of at H
  split at H
  · rename_i h
    obtain rfl := Option.some.inj H
    refine ⟨fun p hp hn => ?_, fun _ => rfl⟩
    have := List.find?_eq_none.1 h p hp
    simp at this
    exact absurd hn this
  · rename_i p h
    split at H
    · rename_i ha
      obtain rfl := Option.some.inj H
      have hp := List.mem_of_find?_eq_some h
      have hc := List.find?_some h
      refine ⟨fun q hq hn => ?_, fun k => absurd (by simpa using hc) (k p hp)⟩
      have := List.all_eq_true.1 ha q hq
      simpa [hn] using this
    · cases H
theorem row_of_pick {ms : List (Int × Value)} {xs : List (Int × List Int)} {h : Heap} (hk : ms.map (·.1) = xs.map (·.1)) (hr : ∀ (i : Nat) (p : Int × Value) (x : Int × List Int), ms[i]? = some p → xs[i]? = some x → FrS h 1 p.2 (x.2.map e_i64)) {p : Int × Value} (hp : p ∈ ms) :
    ∃ x ∈ xs, x.1 = p.1 ∧ FrS h 1 p.2 (x.2.map e_i64) := by
  obtain ⟨i, hi⟩ := List.mem_iff_getElem?.1 hp
  have h1 := congrArg (fun l => l[i]?) hk
  simp only [List.getElem?_map, hi, Option.map_some] at h1
  cases hx : xs[i]? with
  | none => rw [hx] at h1; cases h1
  | some x =>
    rw [hx] at h1
    simp at h1
    exact ⟨x, List.mem_of_getElem? hx, h1.symm, hr i p x hi hx⟩
theorem keys_one {es : Array MapEntry} {clock : Nat} {ms : List (Int × Value)} {xs : List (Int × List Int)} (hst : Go.MapKept.Stamped es clock) (hen : Ents fkG id es.toList ms) (hk : ms.map (·.1) = xs.map (·.1)) {x y : Int × List Int} (hx : x ∈ xs) (hy : y ∈ xs) (e : x.1 = y.1) : x = y := by
  have hn : (xs.map (·.1)).Nodup := by rw [← hk]; exact nodup_of keyF_int hen hst.2.2
  obtain ⟨i, hi⟩ := List.mem_iff_getElem?.1 hx
  obtain ⟨j, hj⟩ := List.mem_iff_getElem?.1 hy
  have h1 : (xs.map (·.1))[i]? = some x.1 := by simp [hi]
  have h2 : (xs.map (·.1))[j]? = some x.1 := by simp [hj, e]
  have hil := (List.getElem?_eq_some_iff.1 h1).1
  have := (List.getElem?_inj hil hn).1 (h1.trans h2.symm)
  subst this
  rw [hi] at hj; exact Option.some.inj hj
theorem k45 {a0 : List (Int × List Int)} {v0 : Value} {a1 r : Int} {w : World} {h : Heap} (hw : Know h w noS) (f0 : FrG h e_i64 v0 a0) (H : face_groups_of a0 a1 = some r) :
    Does Try.prog 45 (List.toArray [v0, .int .i64 a1]) w (fun v w' => v = (.int .i64 r) ∧ Grow w w') := by
 obtain ⟨ms, ⟨b, es, clock, rfl, hb, hst, hen⟩, hk, hrow⟩ := f0.out
 have hbw : ∀ w', Fr ⟨w, noS⟩ w' → w'.heap[b]? = some (.map es clock) := fun w' hF => hw.now hF b _ hb
 obtain ⟨P1, P2⟩ := of_pick H
 refine enter (n := 18) Try.func45 rfl rfl rfl noS [] (Sat.nil _ _) ?_
 refine c_seq ?_
 refine c_region ?_
 refine l_val rfl rfl rfl (r_assign (v := .int .i64 0) rfl) ?_
 refine l_nil ?_
 refine c_seq ?_
 refine c_seq ?_
 refine c_region ?_
 refine l_val rfl rfl rfl (r_move (v := .map (some b)) rfl) ?_
 refine l_make (rds := []) (makes_rangeF (fk := fkG) (fv := id) (xs := ms) Try.underlying87 rfl hbw hen) rfl rfl rfl (fun bi => ?_)
 refine l_nil ?_
 try dsimp only [z1, z2, z3, z4, z5, z6, z7, z8]
 refine c_block ?_
 refine c_loop (σ := List (Int × Value)) (fun s => [(1, .int .i64 a1), (4, .int .i64 0), (8, .pointer (some ⟨bi, 0, none⟩))]) (fun s => [mitF fkG id es clock b bi s none]) (fun s => (∀ p ∈ s, p ∈ ms) ∧ ∀ x ∈ a0, a1 ∈ x.2 → ∃ p ∈ s, p.1 = x.1) (fun s => s.length) ms [0] ⟨fun p hp => hp, fun x hx _ => ?_⟩ (by exact ⟨rfl, rfl, rfl, trivial⟩) (by decide) (by kernel_rfl) ?_
 · have : x.1 ∈ ms.map (·.1) := by rw [hk]; exact List.mem_map.2 ⟨x, hx, rfl⟩
   obtain ⟨p, hp, e⟩ := List.mem_map.1 this
   exact ⟨p, hp, e⟩
 rintro s g ⟨I1, I2⟩
 try dsimp only
 refine c_seq ?_
 refine c_region ?_
 refine caseB (!s.isEmpty) (fun hb => ?_) (fun hb => ?_)
 · refine l_nextF (i := 0) hbw hst rfl rfl hb rfl rfl (fun p rest hp => ?_)
   refine l_val rfl rfl rfl (r_extract (v := .bool true) rfl rfl) ?_
   refine l_nil ?_
   refine c_seq ?_
   refine c_true rfl ?_
   refine c_skip ?_
   obtain ⟨x, hx, hxk, hxr⟩ := row_of_pick hk hrow (I1 p hp.mem)
   have hlen : x.2.length ≤ 9223372036854775807 := by
     obtain ⟨_, c, _, h1, h2, _⟩ := hxr.out
     rw [List.length_map] at h1
     omega
   refine c_block ?_
   refine c_seq ?_
   refine c_region ?_
   refine l_read (fun w hF hS => r_entryF (i := 0) (hbw _ hF) hst hS rfl rfl) rfl rfl rfl ?_
   refine c_imp 0 rfl (imp_mitF _) ?_
   refine l_val rfl rfl rfl (r_extract (v := .int .i64 p.1) rfl rfl) ?_
   refine l_val rfl rfl rfl (r_extract (v := p.2) rfl rfl) ?_
   refine l_val rfl rfl rfl (r_assign (v := .int .i64 p.1) rfl) ?_
   refine l_val rfl rfl rfl (r_assign (v := p.2) rfl) ?_
   refine l_nil ?_
   refine c_seq ?_
   refine c_region ?_
   refine l_val rfl rfl rfl (r_move (v := p.2) rfl) ?_
   refine l_val rfl rfl rfl (r_move (v := .int .i64 a1) rfl) ?_
   refine l_callG (fun w hF hS => k69 (know_all w) (hxr.mono (hw.now hF)) (contains_eq x.2 a1 hlen)) Try.call69 rfl rfl rfl ?_
   refine l_nil ?_
   refine c_if (b := decide (a1 ∈ x.2)) rfl (fun hm => ?_) (fun hm => ?_)
   · refine c_seq ?_
     refine c_region ?_
     refine l_val rfl rfl rfl (r_move (v := .int .i64 p.1) rfl) ?_
     refine l_val rfl rfl rfl (r_assign (v := .int .i64 p.1) rfl) ?_
     refine l_nil ?_
     refine c_ret ?_
     have e : p.1 = r := hxk.symm.trans (P1 x hx (by simpa using hm))
     refine ret1 (v := .int .i64 p.1) rfl rfl (fin (by rw [e]))
   · refine c_skip ?_
     refine c_round rest [0] (by exact ⟨rfl, rfl, rfl, trivial⟩) (by decide) (by kernel_rfl) ⟨fun q hq => I1 q (hp.sub q hq), fun y hy hn => ?_⟩ (by have := hp.len; omega)
     obtain ⟨q, hq, e⟩ := I2 y hy hn
     rcases List.mem_cons.1 (hp.perm.subset hq) with rfl | h
     · have e2 : x.1 = y.1 := hxk.trans e
       have := keys_one hst hen hk hx hy e2
       subst this
       exact absurd hn (by simpa using hm)
     · exact ⟨q, h, e⟩
 · refine l_read (fun w hF hS => r_nextOverF (i := 0) (hbw _ hF) hst hS rfl rfl hb) rfl rfl rfl ?_
   refine l_val rfl rfl rfl (r_extract (v := .bool false) rfl rfl) ?_
   refine l_nil ?_
   refine c_seq ?_
   refine c_false rfl ?_
   refine c_exit ?_
   obtain rfl : s = [] := by simpa using hb
   have e : r = -1 := P2 fun x hx hn => by
     obtain ⟨p, hp, _⟩ := I2 x hx hn
     cases hp
   subst e
   refine c_seq ?_
   refine c_region ?_
   refine l_val rfl rfl rfl (r_assign (v := .int .i64 (-1)) rfl) ?_
   refine l_nil ?_
   refine c_ret ?_
   refine ret1 (v := .int .i64 (-1)) rfl rfl (fin rfl)
theorem each_succ (n : Nat) : face_each (n + 1) = face_each n ++ [(Int.ofNat n, [Int.ofNat n])] := by
  unfold face_each
  rw [List.range_succ, List.map_append]; rfl
theorem each_has {n : Nat} {ms : List (Int × Value)} (h : ms.map (·.1) = (face_each n).map (·.1)) : mHas ms (n : Int) = false := by
  unfold mHas
  rw [List.any_eq_false]
  intro p hp
  have : p.1 ∈ (face_each n).map (·.1) := by rw [← h]; exact List.mem_map.2 ⟨p, hp, rfl⟩
  obtain ⟨q, hq, e⟩ := List.mem_map.1 this
  unfold face_each at hq
  obtain ⟨i, hi, rfl⟩ := List.mem_map.1 hq
  have := List.mem_range.1 hi
  simp only [decide_eq_true_eq]
  intro e2
  rw [e2] at e
  have : ((i : Nat) : Int) = (n : Int) := e
  omega
theorem k68 {n : Nat} {w : World} {h : Heap} (hw : Know h w noS) (hn : n ≤ 9223372036854775807) :
    Does Try.prog 68 (List.toArray [.int .i64 (n : Int)]) w (fun v w' => ∃ x : Nat, v = .map (some x) ∧ Turn w w' noS (grpC 3 e_i64 x (face_each n))) := by
 refine enter (n := 16) Try.func68 rfl rfl rfl noS [] (Sat.nil _ _) ?_
 refine c_seq ?_
 refine c_region ?_
 refine l_val rfl rfl rfl (r_assign (v := .map none) rfl) ?_
 refine l_nil ?_
 refine c_seq ?_
 refine c_region ?_
 refine l_make (rds := []) (makes_map (fk := fkG) (fv := (id : Value → Value))) rfl rfl rfl (fun b => ?_)
 refine l_val rfl rfl rfl (r_assign (v := .map (some b)) rfl) ?_
 refine l_nil ?_
 refine c_emp ?_
 try dsimp only [z1, z2, z3, z4, z5, z6, z7, z8]
 refine c_imp 1 rfl (imp_gk0 (E := 3) (en := e_i64)) ?_
 try dsimp only [z1, z2, z3, z4, z5, z6, z7, z8]
 refine c_seq ?_
 refine c_seq ?_
 refine c_region ?_
 refine l_val rfl rfl rfl (r_move (v := .int .i64 (n : Int)) rfl) ?_
 refine l_val rfl rfl rfl (r_move (v := .int .i64 0) rfl) ?_
 refine l_nil ?_
 refine c_block ?_
 refine c_loop (σ := Nat × List (Int × Value)) (fun s => [(3, .map (some b)), (6, .int .i64 (n : Int)), (7, .int .i64 (s.1 : Int))]) (fun s => [mapC fkG id b s.2, gkC 3 e_i64 s.2 (face_each s.1)]) (fun s => s.1 ≤ n) (fun s => n - s.1) (0, []) [0, 1] (Nat.zero_le _) (by exact ⟨rfl, rfl, rfl, trivial⟩) (by decide) (by kernel_rfl) ?_
 rintro ⟨i, ms⟩ g I
 replace I : i ≤ n := I
 try dsimp only
 refine c_seq ?_
 refine c_region ?_
 refine l_val rfl rfl rfl (r_lss rfl rfl) ?_
 refine l_nil ?_
 refine c_seq ?_
 refine c_if (b := decide ((i : Int) < (n : Int))) rfl (fun hb => ?_) (fun hb => ?_)
 · have hlt : i < n := by have := of_decide_eq_true hb; omega
   refine c_skip ?_
   refine c_seq ?_
   refine c_block ?_
   refine c_seq ?_
   refine c_region ?_
   refine l_val rfl rfl rfl (r_move (v := .int .i64 (i : Int)) rfl) ?_
   refine l_val rfl rfl rfl (r_assign (v := .int .i64 (i : Int)) rfl) ?_
   refine l_nil ?_
   refine c_region ?_
   refine l_val rfl rfl rfl (r_move (v := .map (some b)) rfl) ?_
   refine l_val rfl rfl rfl (r_move (v := .int .i64 (i : Int)) rfl) ?_
   refine l_val rfl rfl rfl (r_move (v := .int .i64 (i : Int)) rfl) ?_
   refine l_buildSlice (vs := [.int .i64 (i : Int)]) Try.underlying30 Try.sizeOf3 Try.zeroValue3 rfl rfl rfl rfl rfl rfl rfl (fun b1 => ?_)
   refine c_gk 1 rfl (fun hk _ => ?_)
   refine l_turn0 (turns_mset (u := true) (i := 0) (rds := []) (fk := fkG) (fv := (id : Value → Value)) (k := (i : Int)) (v := .slice (some ⟨b1, 0, none⟩) 1 1) keyF_int (.inr rfl) Try.underlying87 Try.underlying3 rfl rfl rfl rfl) rfl rfl (fun _ => ?_)
   refine l_nil ?_
   have e : mSet ms (i : Int) (.slice (some ⟨b1, 0, none⟩) 1 1) = ms ++ [((i : Int), .slice (some ⟨b1, 0, none⟩) 1 1)] := by
     unfold mSet; rw [each_has hk]; rfl
   rw [e]
   try dsimp only [z1, z2, z3, z4, z5, z6, z7, z8]
   refine c_imp 2 rfl (imp_box (b := b1) (m := 1) (E := 3) (sz := 1) (xs := [Int.ofNat i].map e_i64) rfl rfl rfl ⟨rfl, by decide⟩) ?_
   try dsimp only [z1, z2, z3, z4, z5, z6, z7, z8]
   refine c_both 1 2 rfl rfl (by decide) ?_
   try dsimp only [z1, z2, z3, z4, z5, z6, z7, z8]
   refine c_imp 1 rfl (imp_grpPush (k := (i : Int)) (ys := [Int.ofNat i]) rfl) ?_
   try dsimp only [z1, z2, z3, z4, z5, z6, z7, z8]
   refine c_region ?_
   refine l_val rfl rfl rfl (r_addG rfl rfl (gI_ok (by omega))) ?_
   refine l_val rfl rfl rfl (r_move (v := .int .i64 ((i : Int) + 1)) rfl) ?_
   refine l_nil ?_
   refine c_round (i + 1, ms ++ [((i : Int), .slice (some ⟨b1, 0, none⟩) 1 1)]) [0, 1] (by exact ⟨rfl, rfl, rfl, trivial⟩) (by decide) (by rw [each_succ]; rfl) (by show i + 1 ≤ n; omega) (by show n - (i + 1) < n - i; omega)
 · have : i = n := by have := of_decide_eq_false hb; omega
   subst this
   refine c_exit ?_
   refine c_seq ?_
   refine c_region ?_
   refine l_val rfl rfl rfl (r_move (v := .map (some b)) rfl) ?_
   refine l_val rfl rfl rfl (r_assign (v := .map (some b)) rfl) ?_
   refine l_nil ?_
   refine c_ret ?_
   refine c_both 0 1 rfl rfl (by decide) ?_
   refine ret1 (v := .map (some b)) rfl rfl (finX b (i := 0) rfl rfl imp_grp)
theorem map_nodup {cx : Cx} {L : List Chunk} {w : World} {i b : Nat} {ms : List (Int × Value)} (hS : Sat cx w L) (hL : L[i]? = some (mapC fkG id b ms)) : (ms.map (·.1)).Nodup := by
  obtain ⟨S, ⟨_, es, c, hb, hst, hen⟩, _⟩ := hS.at hL
  exact nodup_of keyF_int hen hst.2.2
theorem mGet_idx {ν : Type} {xs : List (Int × ν)} {k : Int} {v : ν} (h : mGet xs k = some v) : ∃ j : Nat, xs[j]? = some (k, v) := by
  unfold mGet at h
  cases hf : xs.find? (fun p => decide (p.1 = k)) with
  | none => rw [hf] at h; cases h
  | some p =>
    rw [hf] at h
    have e2 : p.2 = v := by simpa using h
    have e1 : p.1 = k := by simpa using List.find?_some hf
    obtain ⟨j, hj⟩ := List.mem_iff_getElem?.1 (List.mem_of_find?_eq_some hf)
    exact ⟨j, by rw [hj, ← e1, ← e2]⟩
theorem keys_set {ν : Type} {xs : List (Int × ν)} {j : Nat} {k : Int} {v v' : ν} (h : xs[j]? = some (k, v)) : (xs.set j (k, v')).map (·.1) = xs.map (·.1) := by
  rw [List.map_set]
  exact set_self (by simp [h])
theorem mSet_at {ν : Type} : ∀ {xs : List (Int × ν)} {k : Int} {j : Nat} {v v' : ν}, (xs.map (·.1)).Nodup → xs[j]? = some (k, v) → mSet xs k v' = xs.set j (k, v') := by
  intro xs k j v v' hn hj
  unfold mSet
  rw [(mGet_at hn hj).2, if_pos rfl]
  apply List.ext_getElem?
  intro i
  rw [List.getElem?_map, List.getElem?_set]
  by_cases hij : j = i
  · subst hij
    rw [hj]
    have := (List.getElem?_eq_some_iff.1 hj).1
    simp [this]
  · rw [if_neg hij]
    cases hx : xs[i]? with
    | none => rfl
    | some p =>
      have : p.1 ≠ k := fun q => hij ((List.getElem?_inj (by simpa using (List.getElem?_eq_some_iff.1 hj).1) hn).1 (by simp [hx, hj, q]))
      simp [this]
theorem pair_at {ms : List (Int × Value)} {xs : List (Int × List Int)} (hk : ms.map (·.1) = xs.map (·.1)) (hs : ∀ (j : Nat) (p : Int × Value) (x : Int × List Int), ms[j]? = some p → xs[j]? = some x → ∃ q : Option Addr × Nat, p.2 = .slice q.1 x.2.length q.2) {j : Nat} {k : Int} {ys : List Int} (hx : xs[j]? = some (k, ys)) :
    ∃ q : Option Addr × Nat, ms[j]? = some (k, .slice q.1 ys.length q.2) := by
  have h1 := congrArg (fun l => l[j]?) hk
  simp only [List.getElem?_map, hx, Option.map_some] at h1
  cases hm : ms[j]? with
  | none => rw [hm] at h1; cases h1
  | some p =>
    rw [hm] at h1
    have e : p.1 = k := by simpa using h1
    obtain ⟨q, e2⟩ := hs j p _ hm hx
    exact ⟨q, by rw [← e, ← e2]⟩
theorem k53 {b : Nat} {a0 r : List (Int × List Int)} {a1 a2 : Int} {w : World} {h : Heap} {S : Nat → Prop} (hcs : (grpC 3 e_i64 b a0).P S w) (hlt : ∀ b, S b → b < w.heap.size) (hw : Know h w S) (H : face_groups_join a0 a1 a2 = some r) :
    Does Try.prog 53 (List.toArray [.map (some b), .int .i64 a1, .int .i64 a2]) w (fun v w' => ∃ x : Unit, v = .tuple #[] ∧ Turn w w' S (grpC 3 e_i64 b r)) := by
 refine enter (n := 30) Try.func53 rfl rfl rfl S [grpC 3 e_i64 b a0] (Sat.one hcs hlt) ?_
 refine c_seq ?_
 refine c_seq ?_
 refine c_region ?_
 refine l_val rfl rfl rfl (r_move (v := .int .i64 a1) rfl) ?_
 refine l_val rfl rfl rfl (r_move (v := .int .i64 a2) rfl) ?_
 refine l_val rfl rfl rfl (r_eql rfl rfl) ?_
 refine l_nil ?_
 refine c_if (b := decide (a1 = a2)) rfl (fun hb => ?_) (fun hb => ?_)
 · refine c_ret ?_
   unfold face_groups_join at H
   rw [if_pos (of_decide_eq_true hb)] at H
   obtain rfl := Option.some.inj H
   exact ret0 rfl (finX () (i := 0) rfl rfl (Imp.refl _))
 unfold face_groups_join at H
 rw [if_neg (of_decide_eq_false hb)] at H
 split at H
 case h_2 => cases H
 rename_i x y hx hy
 obtain ⟨z, h_z, H1⟩ := bnd_some H
 obtain ⟨l, h_l, H2⟩ := bnd_some H1
 obtain rfl := Option.some.inj H2
 obtain ⟨ja, hja⟩ := mGet_idx hx
 obtain ⟨jb, hjb⟩ := mGet_idx hy
 have hne : min a1 a2 ≠ max a1 a2 := by
   have := of_decide_eq_false hb
   omega
 have hjne : ja ≠ jb := fun q => by
   subst q
   rw [hja] at hjb
   exact hne (by simpa using congrArg (fun o => o.map (·.1)) hjb)
 refine c_skip ?_
 refine c_ex 0 rfl fun ms => ?_
 refine c_split 0 rfl ?_
 try dsimp only [z1, z2, z3, z4, z5, z6, z7, z8]
 refine c_know (fun w hF hS => map_nodup (i := 0) hS rfl) (fun hnd => ?_)
 refine c_gk (E := 3) (en := e_i64) (ms := ms) (xs := a0) 1 rfl (fun hk hs => ?_)
 obtain ⟨pa, hma⟩ := pair_at hk hs hja
 obtain ⟨pb, hmb⟩ := pair_at hk hs hjb
 have hga := (mGet_at hnd hma).1
 have hgb := (mGet_at hnd hmb).1
 refine c_seq ?_
 refine c_region ?_
 refine l_val rfl rfl rfl (r_move (v := .int .i64 a1) rfl) ?_
 refine l_val rfl rfl rfl (r_move (v := .int .i64 a2) rfl) ?_
 refine l_val rfl rfl rfl (r_min rfl rfl) ?_
 refine l_val rfl rfl rfl (r_move (v := .int .i64 a1) rfl) ?_
 refine l_val rfl rfl rfl (r_move (v := .int .i64 a2) rfl) ?_
 refine l_val rfl rfl rfl (r_max rfl rfl) ?_
 refine l_val rfl rfl rfl (r_assign (v := .int .i64 (min a1 a2)) rfl) ?_
 refine l_val rfl rfl rfl (r_assign (v := .int .i64 (max a1 a2)) rfl) ?_
 refine l_nil ?_
 refine c_seq ?_
 refine c_region ?_
 refine l_val rfl rfl rfl (r_move (v := .map (some b)) rfl) ?_
 refine l_val rfl rfl rfl (r_move (v := .int .i64 (min a1 a2)) rfl) ?_
 refine l_read (v := .slice pa.1 x.length pa.2) (fun w hF hS => (run_lookup (i := 0) (fk := fkG) (fv := (id : Value → Value)) (k := min a1 a2) (z := .slice none 0 0) keyF_int Try.underlying87 Try.underlying3 Try.zeroValue30 rfl rfl hS rfl).trans (by rw [hga]; rfl)) rfl rfl rfl ?_
 refine l_val rfl rfl rfl (r_move (v := .map (some b)) rfl) ?_
 refine l_val rfl rfl rfl (r_move (v := .int .i64 (max a1 a2)) rfl) ?_
 refine l_read (v := .slice pb.1 y.length pb.2) (fun w hF hS => (run_lookup (i := 0) (fk := fkG) (fv := (id : Value → Value)) (k := max a1 a2) (z := .slice none 0 0) keyF_int Try.underlying87 Try.underlying3 Try.zeroValue30 rfl rfl hS rfl).trans (by rw [hgb]; rfl)) rfl rfl rfl ?_
 refine c_imp 1 rfl (imp_grpTake hma hja) ?_
 try dsimp only [z1, z2, z3, z4, z5, z6, z7, z8]
 refine c_split 1 rfl ?_
 try dsimp only [z1, z2, z3, z4, z5, z6, z7, z8]
 have hmb' : (ms.set ja (min a1 a2, .slice none 0 0))[jb]? = some (max a1 a2, .slice pb.1 y.length pb.2) := by rw [List.getElem?_set_ne hjne]; exact hmb
 have hjb' : (a0.set ja (min a1 a2, []))[jb]? = some (max a1 a2, y) := by rw [List.getElem?_set_ne hjne]; exact hjb
 refine l_turn (turns_appG (i := 2) (hn := rfl) (rds := [1]) (p := pa) (sz := 1) (by_ := 8) (f := e_i64) (ys := x) (ls := y) (V := .slice pb.1 y.length pb.2) Try.underlying30 (info_of Try.typeInfo3) rfl rfl rfl rfl rfl rfl rfl rfl rfl rfl (fun w L' hF hS hi => gkRow (i := 1) hS ((hi 1 (by simp)).trans rfl) hmb' hjb') (fun _ => rfl) (fun _ => rfl) h_z) rfl rfl rfl (fun pz => ?_)
 refine l_val rfl rfl rfl (r_assign (v := .slice pz.1 z.length pz.2) rfl) ?_
 refine l_nil ?_
 try dsimp only [z1, z2, z3, z4, z5, z6, z7, z8]
 have hlz : z.length = l.length := by
   unfold gSortI at h_l
   split at h_l
   · obtain rfl := Option.some.inj h_l
     exact (List.length_mergeSort z).symm
   · cases h_l
 refine c_seq ?_
 refine c_region ?_
 refine l_val rfl rfl rfl (r_move (v := .slice pz.1 z.length pz.2) rfl) ?_
 refine l_turn (turns_callB (i := 2) (rds := []) (G := fun x : Unit => .tuple #[]) (C := fun x : Unit => rowV 3 1 (.slice pz.1 z.length pz.2) z.length (l.map e_i64)) rfl (fun w L' S hF hS hi hp hlt ho hA => k40 hp hlt (know_but w S) rfl h_l) Try.call40 rfl) rfl rfl rfl (fun _ => ?_)
 refine l_nil ?_
 try dsimp only [z1, z2, z3, z4, z5, z6, z7, z8]
 refine c_seq ?_
 refine c_region ?_
 refine l_val rfl rfl rfl (r_move (v := .map (some b)) rfl) ?_
 refine l_val rfl rfl rfl (r_move (v := .int .i64 (min a1 a2)) rfl) ?_
 refine l_val rfl rfl rfl (r_move (v := .slice pz.1 z.length pz.2) rfl) ?_
 refine l_turn0 (turns_mset (u := true) (i := 0) (rds := []) (fk := fkG) (fv := (id : Value → Value)) (k := min a1 a2) (v := .slice pz.1 z.length pz.2) keyF_int (.inr rfl) Try.underlying87 Try.underlying3 rfl rfl rfl rfl) rfl rfl (fun _ => ?_)
 refine l_nil ?_
 try dsimp only [z1, z2, z3, z4, z5, z6, z7, z8]
 refine c_region ?_
 refine l_val rfl rfl rfl (r_move (v := .map (some b)) rfl) ?_
 refine l_val rfl rfl rfl (r_move (v := .int .i64 (max a1 a2)) rfl) ?_
 refine l_turn0 (turns_mdel (i := 0) (rds := []) (fk := fkG) (fv := (id : Value → Value)) (k := max a1 a2) keyF_int Try.underlying87 Try.underlying3 rfl rfl rfl rfl) rfl rfl (fun _ => ?_)
 refine l_nil ?_
 try dsimp only [z1, z2, z3, z4, z5, z6, z7, z8]
 refine c_both 1 2 rfl rfl (by decide) ?_
 try dsimp only [z1, z2, z3, z4, z5, z6, z7, z8]
 refine c_imp 1 rfl (imp_grpPut (j := ja) (k := min a1 a2) (by simpa using (List.getElem?_eq_some_iff.1 hja).1) hlz) ?_
 try dsimp only [z1, z2, z3, z4, z5, z6, z7, z8]
 refine c_imp 1 rfl (imp_grpDel jb) ?_
 try dsimp only [z1, z2, z3, z4, z5, z6, z7, z8]
 have e1 : mDel (mSet ms (min a1 a2) (.slice pz.1 z.length pz.2)) (max a1 a2) = ((ms.set ja (min a1 a2, .slice none 0 0)).set ja (min a1 a2, .slice pz.1 z.length pz.2)).eraseIdx jb := by
   rw [List.set_set, mSet_at hnd hma, mDel_at (by rw [keys_set hma]; exact hnd) (by rw [List.getElem?_set_ne hjne]; exact hmb)]
 have e2 : mDel (mSet a0 (min a1 a2) l) (max a1 a2) = ((a0.set ja (min a1 a2, [])).set ja (min a1 a2, l)).eraseIdx jb := by
   have hnd0 : (a0.map (·.1)).Nodup := by rw [← hk]; exact hnd
   rw [List.set_set, mSet_at hnd0 hja, mDel_at (by rw [keys_set hja]; exact hnd0) (by rw [List.getElem?_set_ne hjne]; exact hjb)]
 rw [e1]
 refine c_both 0 1 rfl rfl (by decide) ?_
 exact ret0n rfl (finX () (i := 0) rfl rfl (by rw [e2]; exact imp_grp))
theorem k44 {a0 : T_face_bonds} {v0_0 v0_1 : Value} {a1 : Int} {r : List (Int × List Int)} {w : World} {h : Heap} (hw : Know h w noS) (f0_0 : FrS h 2 v0_0 (a0.musts_.map e_2_int)) (f0_1 : FrS h 2 v0_1 (a0.nots_.map e_2_int)) (H : face_bonds_joined a0 a1 = some r) :
    Does Try.prog 44 (List.toArray [.agg #[v0_0, v0_1], .int .i64 a1]) w (fun v w' => ∃ x : Nat, v = .map (some x) ∧ Turn w w' noS (grpC 3 e_i64 x r)) := by
 unfold face_bonds_joined at H
 split at H
 case isFalse => cases H
 rename_i hn
 have ea : a1 = ((a1.toNat : Nat) : Int) := (Int.toNat_of_nonneg hn.1).symm
 generalize hk : a1.toNat = n at H ea
 subst ea
 have hml : a0.musts_.length ≤ 9223372036854775807 := by
   obtain ⟨_, c, _, h1, h2, _⟩ := f0_0.out
   rw [List.length_map] at h1
   omega
 refine enter (n := 29) Try.func44 rfl rfl rfl noS [] (Sat.nil _ _) ?_
 refine c_seq ?_
 refine c_region ?_
 refine l_box (cs := [v0_0, v0_1]) rfl rfl rfl rfl (fun b2 => ?_)
 refine l_val rfl rfl rfl (r_assign (v := .map none) rfl) ?_
 refine l_nil ?_
 refine c_seq ?_
 refine c_region ?_
 refine l_val rfl rfl rfl (r_move (v := .int .i64 (n : Int)) rfl) ?_
 refine l_make (makes_call (rds := []) (G := fun x : Nat => .map (some x)) (C := fun x : Nat => grpC 3 e_i64 x (face_each n)) (fun w L' hF hS hi => k68 (know_all w) (by omega)) Try.call68 rfl) rfl rfl rfl (fun bg => ?_)
 refine l_val rfl rfl rfl (r_assign (v := .map (some bg)) rfl) ?_
 refine l_nil ?_
 try dsimp only [z1, z2, z3, z4, z5, z6, z7, z8]
 refine c_seq ?_
 refine c_seq ?_
 refine c_region ?_
 refine l_val rfl rfl rfl (r_field Try.runUnderlying57 rfl Try.sizeOf55 rfl rfl) ?_
 refine l_load1 (i := 0) (v := v0_0) Try.isAgg55 rfl rfl rfl rfl rfl ?_
 refine l_val rfl rfl rfl (r_lenF Try.underlying55 rfl f0_0 rfl) ?_
 refine l_val rfl rfl rfl (r_move (v := .int .i64 0) rfl) ?_
 refine l_nil ?_
 refine c_block ?_
 refine c_loop (σ := Nat × List (Int × List Int)) (fun s => [(5, .map (some bg)), (11, v0_0), (12, .int .i64 (a0.musts_.length : Int)), (13, .int .i64 (s.1 : Int))]) (fun s => [grpC 3 e_i64 bg s.2]) (fun s => s.1 ≤ a0.musts_.length ∧ face_joined (a0.musts_.drop s.1) s.2 = some r) (fun s => a0.musts_.length - s.1) (0, face_each n) [1] ⟨Nat.zero_le _, H⟩ (by exact ⟨rfl, rfl, rfl, rfl, trivial⟩) (by decide) (by kernel_rfl) ?_
 rintro ⟨i, gg⟩ g ⟨I1, I2⟩
 try dsimp only at I1 I2
 try dsimp only
 refine c_seq ?_
 refine c_region ?_
 refine l_val rfl rfl rfl (r_lss rfl rfl) ?_
 refine l_nil ?_
 refine c_seq ?_
 refine c_if (b := decide ((i : Int) < (a0.musts_.length : Int))) rfl (fun hb => ?_) (fun hb => ?_)
 · have hlt : i < a0.musts_.length := by have := of_decide_eq_true hb; omega
   rw [List.drop_eq_getElem_cons hlt] at I2
   have h_m := gAt_nat hlt
   generalize a0.musts_[i] = m at I2 h_m
   obtain ⟨x, h_x, I3⟩ := bnd_some I2
   obtain ⟨y, h_y, I4⟩ := bnd_some I3
   obtain ⟨g', h_g, I5⟩ := bnd_some I4
   refine c_skip ?_
   refine c_seq ?_
   refine c_block ?_
   refine c_seq ?_
   refine c_region ?_
   refine l_val rfl rfl rfl (r_indexF Try.underlying55 Try.sizeOf36 rfl rfl f0_0 h_m) ?_
   refine l_read (fun w hF hS => run_loadGN (f := e_2_int) (i := (i : Int)) (sz := 2) (j := 0) (vs := [.int .i64 (m 0), .int .i64 (m 1)]) Try.isAgg36 Try.sizeOf36 rfl rfl (f0_0.row (hw.now hF)) h_m rfl) rfl rfl rfl ?_
   refine l_alloc (cs := [.int .i64 0, .int .i64 0]) Try.zeroValue36 rfl rfl rfl (fun b4 => ?_)
   refine l_store (i := 1) (vs := [.int .i64 (m 0), .int .i64 (m 1)]) (cs' := [.int .i64 (m 0), .int .i64 (m 1)]) Try.sizeOf36 rfl rfl rfl rfl rfl rfl rfl rfl rfl ?_
   refine l_nil ?_
   try dsimp only [z1, z2, z3, z4, z5, z6, z7, z8]
   refine c_regionD (Kd.p :: Kd.p :: Kd.p :: Kd.d [1] (.int .i64 (m 0)) :: Kd.d [0] (.int .i64 x) :: Kd.p :: Kd.p :: Kd.d [1] (.int .i64 (m 1)) :: Kd.d [0] (.int .i64 y) :: Kd.t 0 [] (fun _ : Unit => .tuple #[]) (fun _ => grpC 3 e_i64 bg g') :: []) 0 mixed ?_ (by kernel_rfl)
   refine d_val rfl rfl (r_move (v := .map (some bg)) rfl) ?_
   refine d_val rfl rfl (r_move (v := .map (some bg)) rfl) ?_
   refine d_val rfl rfl (r_indexPA Try.runUnderlying36 Try.sizeOf3 rfl rfl (by decide) (by decide)) ?_
   refine d_load1 (i := 1) (v := .int .i64 (m 0)) Try.isAgg3 rfl rfl rfl rfl ?_
   refine d_callD (fun w L' hF hS hi => k45 (know_all w) (frs_grp (E := 3) (en := e_i64) (i := 0) hS ((hi 0 (by simp)).trans rfl)) h_x) Try.call45 rfl rfl ?_
   refine d_val rfl rfl (r_move (v := .map (some bg)) rfl) ?_
   refine d_val rfl rfl (r_indexPA Try.runUnderlying36 Try.sizeOf3 rfl rfl (by decide) (by decide)) ?_
   refine d_load1 (i := 1) (v := .int .i64 (m 1)) Try.isAgg3 rfl rfl rfl rfl ?_
   refine d_callD (fun w L' hF hS hi => k45 (know_all w) (frs_grp (E := 3) (en := e_i64) (i := 0) hS ((hi 0 (by simp)).trans rfl)) h_y) Try.call45 rfl rfl ?_
   refine d_turn (Cv := fun _ => grpC 3 e_i64 bg g') () (turns_callB (i := 0) (rds := []) (G := fun _ : Unit => .tuple #[]) (C := fun _ : Unit => grpC 3 e_i64 bg g') rfl (fun w L' S hF hS hi hp hlt ho hA => k53 hp hlt (know_but w S) h_g) Try.call53 rfl) (fun _ => rfl) rfl rfl (fun _ => ?_)
   refine d_nil ?_
   try dsimp only [z1, z2, z3, z4, z5, z6, z7, z8]
   refine c_region ?_
   refine l_val rfl rfl rfl (r_addG rfl rfl (gI_ok (by omega))) ?_
   refine l_val rfl rfl rfl (r_move (v := .int .i64 ((i : Int) + 1)) rfl) ?_
   refine l_nil ?_
   refine c_round (i + 1, g') [0] (by exact ⟨rfl, rfl, rfl, rfl, trivial⟩) (by decide) (by kernel_rfl) ⟨hlt, I5⟩ (by show a0.musts_.length - (i + 1) < a0.musts_.length - i; omega)
 · have : i = a0.musts_.length := by have := of_decide_eq_false hb; omega
   subst this
   rw [List.drop_length] at I2
   obtain rfl := Option.some.inj I2
   refine c_exit ?_
   refine c_seq ?_
   refine c_region ?_
   refine l_val rfl rfl rfl (r_move (v := .map (some bg)) rfl) ?_
   refine l_val rfl rfl rfl (r_assign (v := .map (some bg)) rfl) ?_
   refine l_nil ?_
   refine c_ret ?_
   refine ret1 (v := .map (some bg)) rfl rfl (finX bg (i := 0) rfl rfl (Imp.refl _))
end Go.Proofs.Ytfihhlfkoghjeaa
