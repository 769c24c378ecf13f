/- Groups of places in plain Lean: what Groups and GroupsOf compute is one and the same. Conditions: none. -/
import Derived.Test.YtinpjnlocahjjaaWLp
namespace Go.M
open Go.Md Go.Pl Go.Vc.Where

/-- Right places, not too many. -/
structure PS (l : List T_api_Place) : Prop where
  len : l.length ≤ 1000
  pl : ∀ k (h : k < l.length), PL l[k]

/-- What holds of the marks and a group. -/
structure OKG (l : List T_api_Place) (s : List Bool × List Int) : Prop where
  len : s.1.length = l.length
  mem : ∀ x ∈ s.2, 0 ≤ x ∧ x < l.length
  cnt : s.2.length ≤ s.1.count true

noncomputable def stepG (l : List T_api_Place) (m : Int) (p : T_api_Place) (s : List Bool × List Int) (n : Nat) : List Bool × List Int :=
  if s.1.getD n true = false ∧ distP p (l.getD n default) ≤ m then (s.1.set n true, s.2 ++ [(n : Int)]) else s

theorem count_mark : ∀ (xs : List Bool) (n : Nat), xs.getD n true = false → (xs.set n true).count true = xs.count true + 1
  | [], n, h => by simp at h
  | b :: xs, 0, h => by
    have hb : b = false := by simpa using h
    subst hb
    simp
  | b :: xs, n + 1, h => by
    have := count_mark xs n (by simpa using h)
    simp only [List.set_cons_succ, List.count_cons]
    omega

theorem OKG.le {l : List T_api_Place} {s : List Bool × List Int} (h : OKG l s) : s.2.length ≤ l.length := by
  have h1 := h.cnt
  have h2 := List.count_le_length (a := true) (l := s.1)
  have h3 := h.len
  omega

theorem stepG_ok {l : List T_api_Place} {m : Int} {p : T_api_Place} {s : List Bool × List Int} (h : OKG l s) {n : Nat} (hn : n < l.length) : OKG l (stepG l m p s n) := by
  unfold stepG
  split
  · rename_i hc
    refine ⟨by simpa using h.len, fun x hx => ?_, ?_⟩
    · rcases List.mem_append.1 hx with hx | hx
      · exact h.mem x hx
      · have : x = (n : Int) := by simpa using hx
        omega
    · have := h.cnt
      simp only [List.length_append, List.length_cons, List.length_nil]
      rw [count_mark _ _ hc.1]
      omega
  · exact h

theorem gAt_more {xs ys : List Int} {k : Nat} {q : Int} (h : k < xs.length) (hq : xs[k] = q) : gAt (xs ++ ys) (k : Int) = some q := by
  rw [gAt_nat (by simp only [List.length_append]; omega), List.getElem_append_left h, hq]

noncomputable def innerG (l : List T_api_Place) (m : Int) (p : T_api_Place) : Nat → Nat → List Bool × List Int → List Bool × List Int
  | 0, _, s => s
  | f + 1, n, s => innerG l m p f (n + 1) (stepG l m p s n)

theorem innerG_ok {l : List T_api_Place} {m : Int} {p : T_api_Place} : ∀ (f n : Nat) (s : List Bool × List Int), n + f = l.length → OKG l s → OKG l (innerG l m p f n s)
  | 0, _, _, _, h => h
  | f + 1, n, s, hn, h => innerG_ok f (n + 1) _ (by omega) (stepG_ok h (by omega))

theorem inner_go {ρ : Type} {F : (Int × List Bool × List Int → Option ρ) → Int × List Bool × List Int → Option ρ} (res : List Bool × List Int → Option ρ) {l : List T_api_Place} {m : Int} {k : Nat} {q : Int} {p : T_api_Place}
    (more : ∀ next (n : Nat) (s : List Bool × List Int), n < l.length → OKG l s → gAt s.2 (k : Int) = some q → F next ((n : Int), s.1, s.2) = next ((n : Int) + 1, (stepG l m p s n).1, (stepG l m p s n).2))
    (stop : ∀ next (n : Nat) (s : List Bool × List Int), l.length ≤ n → F next ((n : Int), s.1, s.2) = res s) :
    ∀ (f n : Nat) (s : List Bool × List Int), n + f = l.length → OKG l s → (∃ h : k < s.2.length, s.2[k] = q) → fix F ((n : Int), s.1, s.2) = res (innerG l m p f n s)
  | 0, n, s, hn, _, _ => fix_done fun next => stop next n s (by omega)
  | f + 1, n, s, hn, h, ⟨hk, hq⟩ => by
    refine (fix_goto ((n : Int) + 1, (stepG l m p s n).1, (stepG l m p s n).2) fun next => more next n s (by omega) h (by rw [gAt_nat hk, hq])).trans ?_
    refine inner_go res more stop f (n + 1) (stepG l m p s n) (by omega) (stepG_ok h (by omega)) ?_
    unfold stepG
    split
    · exact ⟨by simp only [List.length_append]; omega, by simp only; rw [List.getElem_append_left hk, hq]⟩
    · exact ⟨hk, hq⟩

noncomputable def growG (l : List T_api_Place) (m : Int) : Nat → Nat → List Bool × List Int → List Bool × List Int
  | 0, _, s => s
  | f + 1, k, s => if k < s.2.length then growG l m f (k + 1) (innerG l m (l.getD (s.2.getD k 0).toNat default) l.length 0 s) else s

theorem growG_ok {l : List T_api_Place} {m : Int} : ∀ (f k : Nat) (s : List Bool × List Int), OKG l s → OKG l (growG l m f k s)
  | 0, _, _, h => h
  | f + 1, k, s, h => by
    unfold growG
    split
    · exact growG_ok f (k + 1) _ (innerG_ok _ _ _ (by omega) h)
    · exact h

theorem grow_go {ρ : Type} {F : (Int × List Bool × List Int → Option ρ) → Int × List Bool × List Int → Option ρ} (res : List Bool × List Int → Option ρ) {l : List T_api_Place} {m : Int}
    (more : ∀ next (k : Nat) (s : List Bool × List Int), k < s.2.length → OKG l s → F next ((k : Int), s.1, s.2) = next ((k : Int) + 1, (innerG l m (l.getD (s.2.getD k 0).toNat default) l.length 0 s).1, (innerG l m (l.getD (s.2.getD k 0).toNat default) l.length 0 s).2))
    (stop : ∀ next (k : Nat) (s : List Bool × List Int), s.2.length ≤ k → F next ((k : Int), s.1, s.2) = res s) :
    ∀ (f k : Nat) (s : List Bool × List Int), l.length < k + f → OKG l s → fix F ((k : Int), s.1, s.2) = res (growG l m f k s)
  | 0, k, s, hk, h => fix_done fun next => stop next k s (by have := h.le; omega)
  | f + 1, k, s, hk, h => by
    unfold growG
    by_cases hlt : k < s.2.length
    · rw [if_pos hlt]
      exact (fix_goto _ fun next => more next k s hlt h).trans (grow_go res more stop f (k + 1) _ (by omega) (innerG_ok _ _ _ (by omega) h))
    · rw [if_neg hlt]
      exact fix_done fun next => stop next k s (by omega)

def sortL (g : List Int) : List Int := g.mergeSort fun x y => decide (x ≤ y)
theorem sortL_eq {l : List T_api_Place} {s : List Bool × List Int} (hl : PS l) (h : OKG l s) : gSortI s.2 = some (sortL s.2) := by
  unfold gSortI
  have h1 := h.le
  have h2 := hl.len
  exact if_pos (by omega)

noncomputable def groupsG (l : List T_api_Place) (m : Int) : Nat → Nat → List Bool → List (List Int) → List (List Int)
  | 0, _, _, out => out
  | f + 1, i, seen, out => if seen.getD i true = true then groupsG l m f (i + 1) seen out else
      groupsG l m f (i + 1) (growG l m (l.length + 1) 0 (seen.set i true, [(i : Int)])).1 (out ++ [sortL (growG l m (l.length + 1) 0 (seen.set i true, [(i : Int)])).2])

theorem first_ok {l : List T_api_Place} {seen : List Bool} {i : Nat} (hs : seen.length = l.length) (hi : i < l.length) (h : seen.getD i true = false) : OKG l (seen.set i true, [(i : Int)]) :=
  ⟨by simpa using hs, fun x hx => by have : x = (i : Int) := by simpa using hx
                                     omega, by
    have := count_mark seen i h
    show 1 ≤ (seen.set i true).count true
    omega⟩

theorem groups_go {ρ : Type} {F : (Int × List Bool × List (List Int) → Option ρ) → Int × List Bool × List (List Int) → Option ρ} (res : List (List Int) → Option ρ) {l : List T_api_Place} {m : Int}
    (skip : ∀ next (i : Nat) (seen : List Bool) (out : List (List Int)), i < l.length → seen.length = l.length → seen.getD i true = true → F next ((i : Int), seen, out) = next ((i : Int) + 1, seen, out))
    (more : ∀ next (i : Nat) (seen : List Bool) (out : List (List Int)), i < l.length → seen.length = l.length → out.length ≤ i → seen.getD i true = false → F next ((i : Int), seen, out) =
      next ((i : Int) + 1, (growG l m (l.length + 1) 0 (seen.set i true, [(i : Int)])).1, out ++ [sortL (growG l m (l.length + 1) 0 (seen.set i true, [(i : Int)])).2]))
    (stop : ∀ next (i : Nat) (seen : List Bool) (out : List (List Int)), l.length ≤ i → F next ((i : Int), seen, out) = res out) :
    ∀ (f i : Nat) (seen : List Bool) (out : List (List Int)), i + f = l.length → seen.length = l.length → out.length ≤ i → fix F ((i : Int), seen, out) = res (groupsG l m f i seen out)
  | 0, i, seen, out, hi, _, _ => fix_done fun next => stop next i seen out (by omega)
  | f + 1, i, seen, out, hi, hs, ho => by
    unfold groupsG
    by_cases h : seen.getD i true = true
    · rw [if_pos h]
      exact (fix_goto _ fun next => skip next i seen out (by omega) hs h).trans (groups_go res skip more stop f (i + 1) seen out (by omega) hs (by omega))
    · rw [if_neg h]
      have hf : seen.getD i true = false := by simpa using h
      refine (fix_goto _ fun next => more next i seen out (by omega) hs ho hf).trans (groups_go res skip more stop f (i + 1) _ _ (by omega) ?_ (by simp only [List.length_append, List.length_cons, List.length_nil]; omega))
      exact (growG_ok _ _ _ (first_ok hs (by omega) hf)).len

end Go.M
