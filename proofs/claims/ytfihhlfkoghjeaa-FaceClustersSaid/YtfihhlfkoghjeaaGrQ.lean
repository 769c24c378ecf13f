/- Groups in plain Lean: partitions, what of and join do to them. Conditions: few places. -/
import Derived.Test.YtfihhlfkoghjeaaLx15
import Derived.Test.YtfihhlfkoghjeaaMd
import Derived.ProofKit
import Derived.OpenShut
import Derived.ChangeArms
import Derived.DataReads
import Derived.SizedLaws
set_option linter.unusedVariables false
namespace Go.M
open Go.Md Go.Pl
set_option linter.unusedVariables false

structure Part (n : Nat) (g : List (Int × List Int)) : Prop where
  keys : (g.map (·.1)).Nodup
  rise : ∀ p ∈ g, p.2.Pairwise fun x y => x < y
  head : ∀ p ∈ g, p.2.head? = some p.1
  inn : ∀ p ∈ g, ∀ i ∈ p.2, 0 ≤ i ∧ i < n
  all : ∀ i : Int, 0 ≤ i → i < n → ∃ p ∈ g, i ∈ p.2
  one : ∀ p ∈ g, ∀ q ∈ g, ∀ i, i ∈ p.2 → i ∈ q.2 → p = q

section
variable {n : Nat} {g : List (Int × List Int)}
theorem Part.key_mem (h : Part n g) {p : Int × List Int} (hp : p ∈ g) : p.1 ∈ p.2 := by
  have := h.head p hp
  cases hl : p.2 with
  | nil => rw [hl] at this; cases this
  | cons x l => rw [hl] at this; simp at this; rw [← this]; exact List.mem_cons_self
theorem Part.key_le (h : Part n g) {p : Int × List Int} (hp : p ∈ g) {i : Int} (hi : i ∈ p.2) : p.1 ≤ i := by
  have h1 := h.head p hp
  have h2 := h.rise p hp
  cases hl : p.2 with
  | nil => rw [hl] at hi; cases hi
  | cons x l =>
    rw [hl] at h1 h2 hi
    simp at h1
    subst h1
    rcases List.mem_cons.1 hi with rfl | hi
    · exact Int.le_refl _
    · exact Int.le_of_lt ((List.pairwise_cons.1 h2).1 i hi)
theorem Part.by_key (h : Part n g) {p q : Int × List Int} (hp : p ∈ g) (hq : q ∈ g) (e : p.1 = q.1) : p = q :=
  h.one p hp q hq p.1 (h.key_mem hp) (e ▸ h.key_mem hq)
def ownG (g : List (Int × List Int)) (i : Int) : Int := ((g.find? fun p => p.2.contains i).map (·.1)).getD (-1)
theorem Part.own (h : Part n g) {p : Int × List Int} (hp : p ∈ g) {i : Int} (hi : i ∈ p.2) : ownG g i = p.1 := by
  unfold ownG
  cases hf : g.find? (fun p => p.2.contains i) with
  | none => exact absurd (by simpa using hi) (by simpa using List.find?_eq_none.1 hf p hp)
  | some q =>
    have hq := List.mem_of_find?_eq_some hf
    have hc : i ∈ q.2 := by simpa using List.find?_some hf
    rw [h.one p hp q hq i hi hc]; rfl
theorem Part.own_mem (h : Part n g) {i : Int} (h0 : 0 ≤ i) (h1 : i < n) : ∃ p ∈ g, i ∈ p.2 ∧ ownG g i = p.1 := by
  obtain ⟨p, hp, hi⟩ := h.all i h0 h1
  exact ⟨p, hp, hi, h.own hp hi⟩
theorem Part.of_eq (h : Part n g) {i : Int} (h0 : 0 ≤ i) (h1 : i < n) : face_groups_of g i = some (ownG g i) := by
  obtain ⟨p, hp, hi, e⟩ := h.own_mem h0 h1
  unfold face_groups_of
  split
  · rename_i hf
    exact absurd (by simpa using hi) (by simpa using List.find?_eq_none.1 hf p hp)
  · rename_i q hf
    have hq := List.mem_of_find?_eq_some hf
    have hc : i ∈ q.2 := by simpa using List.find?_some hf
    have : g.all (fun r => !r.2.contains i || decide (r.1 = q.1)) = true := List.all_eq_true.2 fun r hr => by
      by_cases hri : i ∈ r.2
      · have := h.one r hr q hq i hri hc
        subst this; simp
      · simp [hri]
    rw [if_pos this, e, h.one p hp q hq i hi hc]
end
theorem part_each (n : Nat) : Part n (face_each n) := by
  have mem : ∀ p ∈ face_each n, ∃ i : Nat, i < n ∧ p = (Int.ofNat i, [Int.ofNat i]) := fun p hp => by
    unfold face_each at hp
    obtain ⟨i, hi, rfl⟩ := List.mem_map.1 hp
    exact ⟨i, List.mem_range.1 hi, rfl⟩
  refine ⟨?_, fun p hp => ?_, fun p hp => ?_, fun p hp i hi => ?_, fun i h0 h1 => ?_, fun p hp q hq i hi hj => ?_⟩
  · unfold face_each
    rw [List.map_map]
    exact List.pairwise_map.2 (List.nodup_range.imp fun h e => h (by simp at e; omega))
  · obtain ⟨i, _, rfl⟩ := mem p hp; simp
  · obtain ⟨i, _, rfl⟩ := mem p hp; rfl
  · obtain ⟨j, hj, rfl⟩ := mem p hp
    simp at hi; omega
  · refine ⟨(Int.ofNat i.toNat, [Int.ofNat i.toNat]), List.mem_map.2 ⟨i.toNat, List.mem_range.2 (by omega), rfl⟩, ?_⟩
    simp; omega
  · obtain ⟨a, _, rfl⟩ := mem p hp
    obtain ⟨b, _, rfl⟩ := mem q hq
    simp at hi hj
    have : a = b := by omega
    rw [this]
theorem rise_len : ∀ (l : List Int) (a b : Int), l.Pairwise (fun x y => x < y) → (∀ x ∈ l, a ≤ x ∧ x < b) → a ≤ b → (l.length : Int) ≤ b - a
  | [], a, b, _, _, h => by simp; omega
  | x :: l, a, b, hp, hb, h => by
    obtain ⟨h1, h2⟩ := List.pairwise_cons.1 hp
    have hx := hb x List.mem_cons_self
    have := rise_len l (x + 1) b h2 (fun y hy => ⟨by have := h1 y hy; omega, (hb y (List.mem_cons_of_mem _ hy)).2⟩) (by omega)
    simp only [List.length_cons]; omega
theorem Part.row_len {n : Nat} {g : List (Int × List Int)} (h : Part n g) {p : Int × List Int} (hp : p ∈ g) : p.2.length ≤ n := by
  have := rise_len p.2 0 n (h.rise p hp) (fun x hx => h.inn p hp x hx) (by omega)
  omega
theorem Part.get {n : Nat} {g : List (Int × List Int)} (h : Part n g) {p : Int × List Int} (hp : p ∈ g) : mGet g p.1 = some p.2 := by
  unfold mGet
  cases hf : g.find? (fun r => decide (r.1 = p.1)) with
  | none => exact absurd (List.find?_eq_none.1 hf p hp) (by simp)
  | some q =>
    have e : q.1 = p.1 := by simpa using List.find?_some hf
    rw [h.by_key (List.mem_of_find?_eq_some hf) hp e]; rfl
structure Joined (n : Nat) (g g' : List (Int × List Int)) (a b : Int) : Prop where
  part : Part n g'
  less : g'.length < g.length
  own : ∀ i : Int, 0 ≤ i → i < n → ownG g' i = if ownG g i = b then a else ownG g i
  keys : ∀ k, k ∈ g'.map (·.1) ↔ k ∈ g.map (·.1) ∧ k ≠ b
theorem part_join {n : Nat} {g : List (Int × List Int)} (h : Part n g) (hn : n ≤ 1000) {p q : Int × List Int} (hp : p ∈ g) (hq : q ∈ g) (hlt : p.1 < q.1) :
    ∃ g', face_groups_join g p.1 q.1 = some g' ∧ face_groups_join g q.1 p.1 = some g' ∧ Joined n g g' p.1 q.1 := by
  have lp := h.row_len hp
  have lq := h.row_len hq
  have hgp := h.get hp
  have hgq := h.get hq
  generalize hl : (p.2 ++ q.2).mergeSort (fun x y => decide (x ≤ y)) = l
  have hA : gApp 8 p.2 q.2 = some (p.2 ++ q.2) := gApp_ok (by omega)
  have hS : gSortI (p.2 ++ q.2) = some l := by unfold gSortI; rw [if_pos (by rw [List.length_append]; omega), hl]
  have hne : p.1 ≠ q.1 := by omega
  have j1 : face_groups_join g p.1 q.1 = some (mDel (mSet g p.1 l) q.1) := by
    unfold face_groups_join
    rw [if_neg hne, Int.min_eq_left (by omega), Int.max_eq_right (by omega), hgp, hgq]
    simp only [hA, hS, bnd_pure]
  have j2 : face_groups_join g q.1 p.1 = some (mDel (mSet g p.1 l) q.1) := by
    unfold face_groups_join
    rw [if_neg (Ne.symm hne), Int.min_eq_right (by omega), Int.max_eq_left (by omega), hgp, hgq]
    simp only [hA, hS, bnd_pure]
  have hperm : l.Perm (p.2 ++ q.2) := by rw [← hl]; exact List.mergeSort_perm _ _
  have hhas : mHas g p.1 = true := List.any_eq_true.2 ⟨p, hp, by simp⟩
  have hset : mSet g p.1 l = g.map fun r => if r.1 = p.1 then (p.1, l) else r := by unfold mSet; rw [if_pos hhas]
  have hmem : ∀ r, r ∈ mDel (mSet g p.1 l) q.1 ↔ r = (p.1, l) ∨ (r ∈ g ∧ r.1 ≠ p.1 ∧ r.1 ≠ q.1) := fun r => by
    unfold mDel
    rw [List.mem_filter, hset, List.mem_map]
    constructor
    · rintro ⟨⟨s, hs, rfl⟩, hr⟩
      by_cases e : s.1 = p.1
      · rw [if_pos e]; exact .inl rfl
      · rw [if_neg e] at hr ⊢; exact .inr ⟨hs, e, by simpa using hr⟩
    · rintro (rfl | ⟨hs, e1, e2⟩)
      · exact ⟨⟨p, hp, if_pos rfl⟩, by simpa using hne⟩
      · exact ⟨⟨r, hs, if_neg e1⟩, by simpa using e2⟩
  have hml : ∀ i, i ∈ l ↔ i ∈ p.2 ∨ i ∈ q.2 := fun i => by rw [hperm.mem_iff, List.mem_append]
  have hkeys : (mSet g p.1 l).map (·.1) = g.map (·.1) := by
    rw [hset, List.map_map]
    refine List.map_congr_left fun r _ => ?_
    by_cases e : r.1 = p.1 <;> simp [e]
  have hnd : l.Nodup := hperm.nodup_iff.2 (List.nodup_append.2 ⟨(h.rise p hp).imp fun h => Int.ne_of_lt h, (h.rise q hq).imp fun h => Int.ne_of_lt h, fun x hx y hy e => hne (by rw [h.one p hp q hq x hx (e ▸ hy)])⟩)
  have hsrt : l.Pairwise fun x y => x < y := by
    have s : l.Pairwise fun x y => decide (x ≤ y) = true := by
      rw [← hl]
      exact List.pairwise_mergeSort (fun a b c h1 h2 => by simp at *; omega) (fun a b => by simp; omega) _
    exact (s.and hnd).imp fun ⟨h1, h2⟩ => by have : _ ≤ _ := of_decide_eq_true h1; omega
  have hP : Part n (mDel (mSet g p.1 l) q.1) := by
    refine ⟨?_, fun r hr => ?_, fun r hr => ?_, fun r hr i hi => ?_, fun i h0 h1 => ?_, fun r hr s hs i hi hj => ?_⟩
    · have : ((mDel (mSet g p.1 l) q.1).map (·.1)).Sublist ((mSet g p.1 l).map (·.1)) := (List.filter_sublist).map _
      rw [hkeys] at this
      exact this.nodup h.keys
    · rcases (hmem r).1 hr with rfl | ⟨hg, _⟩
      · exact hsrt
      · exact h.rise r hg
    · rcases (hmem r).1 hr with rfl | ⟨hg, _⟩
      · have hin : p.1 ∈ l := (hml _).2 (.inl (h.key_mem hp))
        have hle : ∀ i ∈ l, p.1 ≤ i := fun i hi => by
          rcases (hml i).1 hi with h' | h'
          · exact h.key_le hp h'
          · have := h.key_le hq h'; omega
        cases hl2 : l with
        | nil => rw [hl2] at hin; cases hin
        | cons x m =>
          rw [hl2] at hin hle hsrt
          have h1 := hle x List.mem_cons_self
          rcases List.mem_cons.1 hin with e | h'
          · simp [e]
          · have := (List.pairwise_cons.1 hsrt).1 _ h'; omega
      · exact h.head r hg
    · rcases (hmem r).1 hr with rfl | ⟨hg, _⟩
      · rcases (hml i).1 hi with h' | h'
        · exact h.inn p hp i h'
        · exact h.inn q hq i h'
      · exact h.inn r hg i hi
    · obtain ⟨r, hr, hi⟩ := h.all i h0 h1
      by_cases e1 : r.1 = p.1
      · have := h.by_key hr hp e1
        subst this
        exact ⟨_, (hmem _).2 (.inl rfl), (hml i).2 (.inl hi)⟩
      · by_cases e2 : r.1 = q.1
        · have := h.by_key hr hq e2
          subst this
          exact ⟨_, (hmem _).2 (.inl rfl), (hml i).2 (.inr hi)⟩
        · exact ⟨r, (hmem _).2 (.inr ⟨hr, e1, e2⟩), hi⟩
    · have key : ∀ t, t ∈ g → t.1 ≠ p.1 → t.1 ≠ q.1 → i ∈ t.2 → i ∉ l := fun t ht e1 e2 hit hil => by
        rcases (hml i).1 hil with h' | h'
        · exact e1 (by rw [h.one t ht p hp i hit h'])
        · exact e2 (by rw [h.one t ht q hq i hit h'])
      rcases (hmem r).1 hr with rfl | ⟨hg, e1, e2⟩
      · rcases (hmem s).1 hs with rfl | ⟨hg', e1', e2'⟩
        · rfl
        · exact absurd hi (key s hg' e1' e2' hj)
      · rcases (hmem s).1 hs with rfl | ⟨hg', e1', e2'⟩
        · exact absurd hj (key r hg e1 e2 hi)
        · exact h.one r hg s hg' i hi hj
  refine ⟨_, j1, j2, hP, ?_, fun i h0 h1 => ?_, fun k => ?_⟩
  · have : (mSet g p.1 l).length = g.length := by rw [hset, List.length_map]
    rw [← this]
    refine List.length_filter_lt_length_iff_exists.2 ⟨q, ?_, by simp⟩
    rw [hset]
    exact List.mem_map.2 ⟨q, hq, if_neg (Ne.symm hne)⟩
  · obtain ⟨r, hr, hi, e⟩ := h.own_mem h0 h1
    rw [e]
    by_cases e2 : r.1 = q.1
    · have := h.by_key hr hq e2
      subst this
      rw [if_pos rfl]
      exact hP.own ((hmem _).2 (.inl rfl)) ((hml i).2 (.inr hi))
    · rw [if_neg e2]
      by_cases e1 : r.1 = p.1
      · have := h.by_key hr hp e1
        subst this
        exact hP.own ((hmem _).2 (.inl rfl)) ((hml i).2 (.inl hi))
      · exact hP.own ((hmem _).2 (.inr ⟨hr, e1, e2⟩)) hi
  · rw [List.mem_map, List.mem_map]
    constructor
    · rintro ⟨r, hr, rfl⟩
      rcases (hmem r).1 hr with rfl | ⟨hg, e1, e2⟩
      · exact ⟨⟨p, hp, rfl⟩, hne⟩
      · exact ⟨⟨r, hg, rfl⟩, e2⟩
    · rintro ⟨⟨r, hr, rfl⟩, e2⟩
      by_cases e1 : r.1 = p.1
      · exact ⟨(p.1, l), (hmem _).2 (.inl rfl), e1.symm⟩
      · exact ⟨r, (hmem _).2 (.inr ⟨hr, e1, e2⟩), rfl⟩
end Go.M

namespace Go.M
open Go.Md Go.Pl
set_option linter.unusedVariables false
set_option maxRecDepth 100000

def gapV (t : T_face_table) (u v : Int) : Int := get2 0 t.gap_ u.toNat v.toNat
def apV (t : T_face_table) (u v : Int) : Bool := get2 false t.apart_ u.toNat v.toNat
theorem sq_get {α : Type} {z : α} {n : Nat} {t : List (List α)} (h : sqT n t) {u v : Int} (hu : 0 ≤ u ∧ u < n) (hv : 0 ≤ v ∧ v < n) : ∃ xs, gAt t u = some xs ∧ gAt xs v = some (get2 z t u.toNat v.toNat) := by
  have h1 : u.toNat < t.length := by rw [h.1]; omega
  have h2 : v.toNat < (t[u.toNat]).length := by rw [h.2 _ (List.getElem_mem h1)]; omega
  refine ⟨t[u.toNat], gAt_ok hu.1 (by omega), ?_⟩
  rw [gAt_ok hv.1 (by omega)]
  unfold get2
  simp [List.getD_eq_getElem?_getD, List.getElem?_eq_getElem h1, List.getElem?_eq_getElem h2]
structure Near (t : T_face_table) (P : Int → Int → Prop) (limit : Int) (s : Int × Int × Int) : Prop where
  le : s.2.2 ≤ limit + 1
  low : ∀ u v, P u v → apV t u v = true ∨ s.2.2 ≤ gapV t u v
  hit : s.2.2 = limit + 1 ∨ (P s.1 s.2.1 ∧ apV t s.1 s.2.1 = false ∧ gapV t s.1 s.2.1 = s.2.2)
def Pij (ks : List Int) (i j : Nat) (u v : Int) : Prop := ∃ a b : Nat, a < b ∧ (a < i ∨ (a = i ∧ b < i + 1 + j)) ∧ ks[a]? = some u ∧ ks[b]? = some v
theorem Near.mono {t : T_face_table} {P Q : Int → Int → Prop} {limit : Int} {s : Int × Int × Int} (h : Near t P limit s) (k : ∀ u v, P u v ↔ Q u v) : Near t Q limit s :=
  ⟨h.le, fun u v q => h.low u v ((k u v).2 q), h.hit.imp id fun ⟨a, b⟩ => ⟨(k _ _).1 a, b⟩⟩
theorem Pij_succ {ks : List Int} {i j : Nat} {x y : Int} (hx : ks[i]? = some x) (hy : ks[i + 1 + j]? = some y) (u v : Int) : Pij ks i (j + 1) u v ↔ Pij ks i j u v ∨ (u = x ∧ v = y) := by
  constructor
  · rintro ⟨a, b, h1, h2, h3, h4⟩
    rcases h2 with h2 | ⟨h2, h5⟩
    · exact .inl ⟨a, b, h1, .inl h2, h3, h4⟩
    · by_cases e : b = i + 1 + j
      · subst h2 e
        rw [hx] at h3; rw [hy] at h4
        exact .inr ⟨(Option.some.inj h3).symm, (Option.some.inj h4).symm⟩
      · exact .inl ⟨a, b, h1, .inr ⟨h2, by omega⟩, h3, h4⟩
  · rintro (⟨a, b, h1, h2, h3, h4⟩ | ⟨rfl, rfl⟩)
    · exact ⟨a, b, h1, h2.imp id fun ⟨e, h⟩ => ⟨e, by omega⟩, h3, h4⟩
    · exact ⟨i, i + 1 + j, by omega, .inr ⟨rfl, by omega⟩, hx, hy⟩
theorem Pij_next {ks : List Int} {i j : Nat} (h : i + 1 + j = ks.length) (u v : Int) : Pij ks i j u v ↔ Pij ks (i + 1) 0 u v := by
  constructor
  · rintro ⟨a, b, h1, h2, h3, h4⟩
    exact ⟨a, b, h1, .inl (by rcases h2 with h2 | h2 <;> omega), h3, h4⟩
  · rintro ⟨a, b, h1, h2, h3, h4⟩
    have := (List.getElem?_eq_some_iff.1 h4).1
    refine ⟨a, b, h1, ?_, h3, h4⟩
    rcases h2 with h2 | ⟨h2, h5⟩
    · rcases Nat.lt_or_ge a i with h | h
      · exact .inl h
      · exact .inr ⟨by omega, by omega⟩
    · omega
theorem nearest_eq {n : Nat} {t : T_face_table} {ks : List Int} {limit : Int} (s1 : sqT n t.gap_) (s2 : sqT n t.apart_) (hk : ∀ k ∈ ks, 0 ≤ k ∧ k < (n : Int)) (hl : ks.length ≤ 1000000) (hlim : 0 ≤ limit ∧ limit ≤ 1000000000) :
    ∃ r, face_table_nearest t ks limit = some r ∧ (r.2.2 = true → (∃ a b : Nat, a < b ∧ ks[a]? = some r.1 ∧ ks[b]? = some r.2.1) ∧ apV t r.1 r.2.1 = false ∧ gapV t r.1 r.2.1 ≤ limit) ∧
      (r.2.2 = false → ∀ (a b : Nat) (u v : Int), a < b → ks[a]? = some u → ks[b]? = some v → apV t u v = true ∨ limit < gapV t u v) := by
  have inner : ∀ (i : Nat) (x : Int) (s : Int × Int × Int), ks[i]? = some x → Near t (Pij ks i 0) limit s → ∃ r : Int × Int × Int, Near t (Pij ks (i + 1) 0) limit r ∧ ∀ next2, fix (fun next4 s => face_table_nearest_l4 t (i : Int) next2 x (ks.drop (i + 1)) next4 s.1 s.2.1 s.2.2.1 s.2.2.2) (s.1, s.2.1, s.2.2, 0) = face_table_nearest_j3 (i : Int) next2 r.1 r.2.1 r.2.2 := fun i x s hx hs => by
    have hxk := hk x (List.mem_of_getElem? hx)
    have hil := (List.getElem?_eq_some_iff.1 hx).1
    have hdl : (ks.drop (i + 1)).length = ks.length - (i + 1) := List.length_drop
    have step : ∀ a : Int × Int × Int × Int, (∃ j : Nat, a.2.2.2 = (j : Int) ∧ i + 1 + j ≤ ks.length ∧ Near t (Pij ks i j) limit (a.1, a.2.1, a.2.2.1)) →
        (∃ r : Int × Int × Int, Near t (Pij ks (i + 1) 0) limit r ∧ ∀ (next2 : Int × Int × Int × Int → Option (Int × Int × Bool)) (next4 : Int × Int × Int × Int → Option (Int × Int × Bool)), face_table_nearest_l4 t (i : Int) next2 x (ks.drop (i + 1)) next4 a.1 a.2.1 a.2.2.1 a.2.2.2 = face_table_nearest_j3 (i : Int) next2 r.1 r.2.1 r.2.2) ∨
        (∃ b : Int × Int × Int × Int, (∃ j : Nat, b.2.2.2 = (j : Int) ∧ i + 1 + j ≤ ks.length ∧ Near t (Pij ks i j) limit (b.1, b.2.1, b.2.2.1)) ∧ ks.length - b.2.2.2.toNat < ks.length - a.2.2.2.toNat ∧ ∀ (next2 : Int × Int × Int × Int → Option (Int × Int × Bool)) (next4 : Int × Int × Int × Int → Option (Int × Int × Bool)), face_table_nearest_l4 t (i : Int) next2 x (ks.drop (i + 1)) next4 a.1 a.2.1 a.2.2.1 a.2.2.2 = next4 b) := by
     rintro ⟨u, v, le, j0⟩ ⟨j, e, hj, hN⟩
     try dsimp only at e hN
     subst e
     by_cases hlt : i + 1 + j < ks.length
     · have hy : ks[i + 1 + j]? = some ks[i + 1 + j] := List.getElem?_eq_getElem hlt
       generalize ks[i + 1 + j] = y at hy
       have hyk := hk y (List.mem_of_getElem? hy)
       have hgy : gAt (ks.drop (i + 1)) (j : Int) = some y := by
         rw [gAt_ok (by omega) (by omega)]
         have : (ks.drop (i + 1))[j]? = some y := by rw [List.getElem?_drop]; exact hy
         simpa using (List.getElem?_eq_some_iff.1 this).2
       obtain ⟨r1, a1, a2⟩ := sq_get (z := (0 : Int)) s1 hxk hyk
       obtain ⟨r2, b1, b2⟩ := sq_get (z := false) s2 hxk hyk
       have hps := Pij_succ hx hy
       have hF : ∀ next2 next4, face_table_nearest_l4 t (i : Int) next2 x (ks.drop (i + 1)) next4 u v le (j : Int) =
           cnd (!apV t x y) (cnd (decide (gapV t x y < le)) (next4 (x, y, gapV t x y, (j : Int) + 1)) (next4 (u, v, le, (j : Int) + 1))) (next4 (u, v, le, (j : Int) + 1)) := fun next2 next4 => by
         unfold face_table_nearest_l4 face_table_nearest_j5
         rw [decide_eq_true (by omega), cnd_true, hgy, bnd_pure, b1, bnd_pure, b2, bnd_pure]
         simp only [a1, a2, bnd_pure, gI_ok (show -9223372036854775808 ≤ (j : Int) + 1 ∧ (j : Int) + 1 ≤ 9223372036854775807 by omega)]
         rfl
       refine .inr ?_
       by_cases hap : apV t x y = true
       · refine ⟨(u, v, le, (j : Int) + 1), ⟨j + 1, by simp, by omega, hN.le, fun p q hpq => ?_, hN.hit.imp id fun ⟨h1, h2⟩ => ⟨(hps _ _).2 (.inl h1), h2⟩⟩, by show ks.length - ((j : Int) + 1).toNat < ks.length - (j : Int).toNat; omega, fun next2 next4 => ?_⟩
         · rcases (hps p q).1 hpq with h | ⟨rfl, rfl⟩
           · exact hN.low p q h
           · exact .inl hap
         · show face_table_nearest_l4 t (i : Int) next2 x (ks.drop (i + 1)) next4 u v le (j : Int) = _
           rw [hF, hap]; rfl
       · have hap : apV t x y = false := by simpa using hap
         by_cases hg : gapV t x y < le
         · refine ⟨(x, y, gapV t x y, (j : Int) + 1), ⟨j + 1, by simp, by omega, by have := hN.le; simp only at this ⊢; omega, fun p q hpq => ?_, .inr ⟨(hps _ _).2 (.inr ⟨rfl, rfl⟩), hap, rfl⟩⟩, by show ks.length - ((j : Int) + 1).toNat < ks.length - (j : Int).toNat; omega, fun next2 next4 => ?_⟩
           · rcases (hps p q).1 hpq with h | ⟨rfl, rfl⟩
             · have := hN.low p q h
               simp only at this ⊢
               exact this.imp id fun h => by omega
             · exact .inr (Int.le_refl _)
           · show face_table_nearest_l4 t (i : Int) next2 x (ks.drop (i + 1)) next4 u v le (j : Int) = _
             rw [hF, hap, decide_eq_true hg]; rfl
         · refine ⟨(u, v, le, (j : Int) + 1), ⟨j + 1, by simp, by omega, hN.le, fun p q hpq => ?_, hN.hit.imp id fun ⟨h1, h2⟩ => ⟨(hps _ _).2 (.inl h1), h2⟩⟩, by show ks.length - ((j : Int) + 1).toNat < ks.length - (j : Int).toNat; omega, fun next2 next4 => ?_⟩
           · rcases (hps p q).1 hpq with h | ⟨rfl, rfl⟩
             · exact hN.low p q h
             · exact .inr (by simp only; omega)
           · show face_table_nearest_l4 t (i : Int) next2 x (ks.drop (i + 1)) next4 u v le (j : Int) = _
             rw [hF, hap, decide_eq_false hg]; rfl
     · refine .inl ⟨(u, v, le), hN.mono (Pij_next (by omega)), fun next2 next4 => ?_⟩
       show face_table_nearest_l4 t (i : Int) next2 x (ks.drop (i + 1)) next4 u v le (j : Int) = _
       unfold face_table_nearest_l4
       rw [decide_eq_false (by omega), cnd_false]
    obtain ⟨r, h1, h2⟩ := fix_runP (F := fun (next2 : Int × Int × Int × Int → Option (Int × Int × Bool)) next4 s => face_table_nearest_l4 t (i : Int) next2 x (ks.drop (i + 1)) next4 s.1 s.2.1 s.2.2.1 s.2.2.2) (fun next2 (r : Int × Int × Int) => face_table_nearest_j3 (i : Int) next2 r.1 r.2.1 r.2.2)
      (fun s : Int × Int × Int × Int => ∃ j : Nat, s.2.2.2 = (j : Int) ∧ i + 1 + j ≤ ks.length ∧ Near t (Pij ks i j) limit (s.1, s.2.1, s.2.2.1)) (fun s => ks.length - s.2.2.2.toNat) (fun r => Near t (Pij ks (i + 1) 0) limit r) step (s.1, s.2.1, s.2.2, 0) ⟨0, rfl, by omega, hs⟩
    exact ⟨r, h1, h2⟩
  unfold face_table_nearest
  rw [gI_ok (by omega), bnd_pure]
  refine fix_run (F := fun next2 s => face_table_nearest_l2 t ks limit next2 s.1 s.2.1 s.2.2.1 s.2.2.2) (fun s => ∃ i : Nat, s.2.2.2 = (i : Int) ∧ i ≤ ks.length ∧ Near t (Pij ks i 0) limit (s.1, s.2.1, s.2.2.1)) (fun s => ks.length - s.2.2.2.toNat) _ ?_ (0, 0, limit + 1, 0)
    ⟨0, rfl, Nat.zero_le _, Int.le_refl _, fun u v ⟨a, b, h1, h2, _⟩ => by omega, .inl rfl⟩
  rintro ⟨u, v, le, i0⟩ ⟨i, e, hi, hN⟩
  try dsimp only at e hN
  subst e
  by_cases hlt : i < ks.length
  · have hx : ks[i]? = some ks[i] := List.getElem?_eq_getElem hlt
    have hgx := gAt_nat hlt
    generalize ks[i] = x at hx hgx
    obtain ⟨r, hr, hfix⟩ := inner i x (u, v, le) hx hN
    refine .inr ⟨(r.1, r.2.1, r.2.2, (i : Int) + 1), ⟨i + 1, by simp, hlt, hr⟩, by show ks.length - ((i : Int) + 1).toNat < ks.length - (i : Int).toNat; omega, fun next2 => ?_⟩
    show face_table_nearest_l2 t ks limit next2 u v le (i : Int) = _
    have hcut : gCut ks ((i : Int) + 1) (ks.length : Int) = some (ks.drop (i + 1)) := by
      unfold gCut
      rw [if_pos ⟨by omega, by omega, Int.le_refl _⟩, show ((i : Int) + 1).toNat = i + 1 by omega, Int.toNat_natCast, List.take_of_length_le (by rw [List.length_drop]; omega)]
    unfold face_table_nearest_l2
    rw [decide_eq_true (by omega), cnd_true, hgx, bnd_pure, gI_ok (by omega), bnd_pure, hcut, bnd_pure]
    refine (hfix next2).trans ?_
    unfold face_table_nearest_j3
    rw [gI_ok (by omega), bnd_pure]
  · refine .inl ⟨(u, v, decide (le ≤ limit)), ⟨fun h => ?_, fun h a b p q hab hp hq => ?_⟩, fun next2 => ?_⟩
    · have h : le ≤ limit := by simpa using h
      rcases hN.hit with h1 | ⟨⟨a, b, h1, _, h3, h4⟩, h5, h6⟩
      · simp only at h1; omega
      · exact ⟨⟨a, b, h1, h3, h4⟩, h5, by simp only at h6; rw [h6]; exact h⟩
    · have h : ¬ le ≤ limit := by simpa using h
      have hb := (List.getElem?_eq_some_iff.1 hq).1
      have := hN.low p q ⟨a, b, hab, .inl (by omega), hp, hq⟩
      exact this.imp id fun h' => by simp only at h'; omega
    · show face_table_nearest_l2 t ks limit next2 u v le (i : Int) = _
      unfold face_table_nearest_l2 face_table_nearest_j1
      rw [decide_eq_false (by omega), cnd_false]
end Go.M

namespace Go.M
open Go.Md Go.Pl
set_option linter.unusedVariables false

theorem get2_set2 {α : Type} {z : α} {n : Nat} {t : List (List α)} (h : sqT n t) {a b : Nat} (ha : a < n) (hb : b < n) (v : α) (u w : Nat) : get2 z (set2 t a b v) u w = if u = a ∧ w = b then v else get2 z t u w := by
  have hl : a < t.length := by rw [h.1]; exact ha
  have hr : b < (t[a]).length := by rw [h.2 _ (List.getElem_mem hl)]; exact hb
  unfold get2 set2
  simp only [List.getD_eq_getElem?_getD, List.getElem?_modify]
  by_cases e : a = u
  · subst e
    simp only [if_true, List.getElem?_eq_getElem hl, Option.map_some, Option.getD_some, List.getElem?_set]
    by_cases e2 : b = w
    · subst e2; simp [hr]
    · simp [e2, Ne.symm e2]
  · simp only [if_neg e, Ne.symm e, false_and, if_false]
    cases t[u]? <;> rfl
theorem sqT_set2 {α : Type} {n : Nat} {t : List (List α)} (h : sqT n t) (a b : Nat) (v : α) : sqT n (set2 t a b v) := by
  unfold set2
  refine ⟨by rw [List.length_modify]; exact h.1, fun r hr => ?_⟩
  obtain ⟨i, hi⟩ := List.mem_iff_getElem?.1 hr
  rw [List.getElem?_modify] at hi
  cases ht : t[i]? with
  | none => rw [ht] at hi; cases hi
  | some x =>
    rw [ht] at hi
    have hx := h.2 x (List.mem_of_getElem? ht)
    split at hi
    · simp at hi; rw [← hi]; simpa using hx
    · simp at hi; rw [← hi]; exact hx
def mrg {α : Type} (f : α → α → α) (z : α) (a b : Nat) (t : List (List α)) (k : Nat) : List (List α) := set2 (set2 t a k (f (get2 z t a k) (get2 z t b k))) k a (f (get2 z t a k) (get2 z t b k))
theorem mrg_fold {α : Type} {f : α → α → α} {z : α} {n a b : Nat} {t : List (List α)} (h : sqT n t) (hab : a < b) (hb : b < n) : ∀ i, i ≤ n → sqT n ((List.range i).foldl (mrg f z a b) t) ∧
    ∀ u w, u < n → w < n → get2 z ((List.range i).foldl (mrg f z a b) t) u w = if u = a ∧ w < i then f (get2 z t a w) (get2 z t b w) else if w = a ∧ u < i then f (get2 z t a u) (get2 z t b u) else get2 z t u w
  | 0, _ => ⟨h, fun u w _ _ => by simp⟩
  | i + 1, hi => by
    obtain ⟨s, ih⟩ := mrg_fold (f := f) (z := z) h hab hb i (by omega)
    rw [List.range_succ, List.foldl_append]
    show sqT n (mrg f z a b _ i) ∧ _
    generalize (List.range i).foldl (mrg f z a b) t = T at s ih
    have e1 : get2 z T a i = get2 z t a i := by
      rw [ih a i (by omega) (by omega), if_neg (by omega)]
      by_cases e : i = a
      · subst e; rw [if_neg (by omega)]
      · rw [if_neg (by omega)]
    have e2 : get2 z T b i = get2 z t b i := by
      rw [ih b i hb (by omega), if_neg (by omega), if_neg (by omega)]
    refine ⟨sqT_set2 (sqT_set2 s _ _ _) _ _ _, fun u w hu hw => ?_⟩
    show get2 z (mrg f z a b T i) u w = _
    unfold mrg
    rw [e1, e2, get2_set2 (sqT_set2 s _ _ _) (by omega) (by omega), get2_set2 s (by omega) (by omega), ih u w hu hw]
    by_cases c1 : u = i ∧ w = a
    · obtain ⟨rfl, rfl⟩ := c1
      rw [if_pos ⟨rfl, rfl⟩]
      by_cases c2 : u = w
      · subst c2; rw [if_pos ⟨rfl, by omega⟩]
      · rw [if_neg (by omega), if_pos ⟨rfl, by omega⟩]
    · rw [if_neg c1]
      by_cases c2 : u = a ∧ w = i
      · obtain ⟨rfl, rfl⟩ := c2
        rw [if_pos ⟨rfl, rfl⟩, if_pos ⟨rfl, by omega⟩]
      · rw [if_neg c2]
        by_cases c3 : u = a ∧ w < i
        · rw [if_pos c3, if_pos ⟨c3.1, by omega⟩]
        · rw [if_neg c3]
          have c5 : ¬ (u = a ∧ w < i + 1) := by omega
          by_cases c4 : w = a ∧ u < i
          · rw [if_pos c4, if_neg c5, if_pos ⟨c4.1, by omega⟩]
          · have c6 : ¬ (w = a ∧ u < i + 1) := by omega
            rw [if_neg c4, if_neg c5, if_neg c6]
theorem merge_proj (a b : Nat) : ∀ (l : List Nat) (t : T_face_table), (l.foldl (mergeT a b) t).gap_ = l.foldl (mrg min 0 a b) t.gap_ ∧ (l.foldl (mergeT a b) t).apart_ = l.foldl (mrg (· || ·) false a b) t.apart_
  | [], t => ⟨rfl, rfl⟩
  | k :: l, t => merge_proj a b l (mergeT a b t k)
theorem merge_eq {n : Nat} {t : T_face_table} {x y : Int} (s1 : sqT n t.gap_) (s2 : sqT n t.apart_) (hx : 0 ≤ x) (hxy : x < y) (hy : y < n) :
    ∃ t', face_table_merge t x y = some t' ∧ sqT n t'.gap_ ∧ sqT n t'.apart_ ∧
      (∀ u v : Int, 0 ≤ u → u < n → 0 ≤ v → v < n → gapV t' u v = if u = x then min (gapV t x v) (gapV t y v) else if v = x then min (gapV t x u) (gapV t y u) else gapV t u v) ∧
      (∀ u v : Int, 0 ≤ u → u < n → 0 ≤ v → v < n → apV t' u v = if u = x then apV t x v || apV t y v else if v = x then apV t x u || apV t y u else apV t u v) := by
  obtain ⟨m1, g1⟩ := mrg_fold (f := min) (z := (0 : Int)) (a := x.toNat) (b := y.toNat) s1 (by omega) (by omega) n (Nat.le_refl _)
  obtain ⟨m2, g2⟩ := mrg_fold (f := (· || ·)) (z := false) (a := x.toNat) (b := y.toNat) s2 (by omega) (by omega) n (Nat.le_refl _)
  obtain ⟨p1, p2⟩ := merge_proj x.toNat y.toNat (List.range n) t
  have hlen := s1.1
  refine ⟨(List.range n).foldl (mergeT x.toNat y.toNat) t, ?_, by rw [p1]; exact m1, by rw [p2]; exact m2, fun u v hu0 hu hv0 hv => ?_, fun u v hu0 hu hv0 hv => ?_⟩
  · unfold face_table_merge
    rw [hlen, if_pos ⟨s1, s2, hx, by omega, by omega, by omega⟩]
  · unfold gapV
    rw [p1, g1 _ _ (by omega) (by omega)]
    by_cases c : u = x
    · subst c; rw [if_pos ⟨rfl, by omega⟩, if_pos rfl]
    · rw [if_neg (by omega), if_neg c]
      by_cases c2 : v = x
      · subst c2; rw [if_pos ⟨rfl, by omega⟩, if_pos rfl]
      · rw [if_neg (by omega), if_neg c2]
  · unfold apV
    rw [p2, g2 _ _ (by omega) (by omega)]
    by_cases c : u = x
    · subst c; rw [if_pos ⟨rfl, by omega⟩, if_pos rfl]
    · rw [if_neg (by omega), if_neg c]
      by_cases c2 : v = x
      · subst c2; rw [if_pos ⟨rfl, by omega⟩, if_pos rfl]
      · rw [if_neg (by omega), if_neg c2]
end Go.M

namespace Go.M
open Go.Md Go.Pl
set_option linter.unusedVariables false

theorem ofsG_at {n : Nat} {g : List (Int × List Int)} (h : Part n g) {i : Nat} (hi : i < n) : (ofsG g n).getD i 0 = ownG g (i : Int) := by
  unfold ofsG
  rw [List.getD_eq_getElem?_getD, List.getElem?_map, List.getElem?_range hi]
  show (face_groups_of g (Int.ofNat i)).getD (-1) = _
  have := h.of_eq (i := (i : Int)) (by omega) (by omega)
  rw [show Int.ofNat i = (i : Int) from rfl, this]; rfl
theorem own_in {n : Nat} {g : List (Int × List Int)} (h : Part n g) {i : Int} (h0 : 0 ≤ i) (h1 : i < n) : 0 ≤ ownG g i ∧ ownG g i < n := by
  obtain ⟨p, hp, _, e⟩ := h.own_mem h0 h1
  rw [e]
  exact h.inn p hp _ (h.key_mem hp)
section
variable {l : List T_face_Likeness} {g : List (Int × List Int)} {D : Nat → Nat → Int} {n : Nat}
theorem gap_row (hnl : l.length = n) (h : Part n g) (hD : ∀ (i k : Nat) (hi : i < l.length) (hk : k < l.length), face_far l[i].Vec l[k].Vec = some (D i k)) {i : Nat} (hi : i < n) : ∀ (ks : List Nat) (t : List (List Int)), (∀ k ∈ ks, k < n) → sqT n t →
    ∃ t', ks.foldlM (gapT l (ofsG g n) i) t = some t' ∧ sqT n t' ∧ (∀ u v : Nat, u < n → v < n → get2 0 t' u v ≤ get2 0 t u v) ∧ ∀ k ∈ ks, get2 0 t' (ownG g (i : Int)).toNat (ownG g (k : Int)).toNat ≤ D i k
  | [], t, _, hs => ⟨t, rfl, hs, fun _ _ _ _ => Int.le_refl _, fun k hk => by cases hk⟩
  | k :: ks, t, hk, hs => by
    have hkn := hk k List.mem_cons_self
    obtain ⟨a0, a1⟩ := own_in h (i := (i : Int)) (by omega) (by omega)
    obtain ⟨b0, b1⟩ := own_in h (i := (k : Int)) (by omega) (by omega)
    have hstep : gapT l (ofsG g n) i t k = some (set2 t (ownG g (i : Int)).toNat (ownG g (k : Int)).toNat (min (get2 0 t (ownG g (i : Int)).toNat (ownG g (k : Int)).toNat) (D i k))) := by
      unfold gapT
      rw [List.getElem?_eq_getElem (by omega), List.getElem?_eq_getElem (by omega)]
      simp only [hD i k (by omega) (by omega), bnd_pure, ofsG_at h hi, ofsG_at h hkn]
    obtain ⟨t', e, s', m, f⟩ := gap_row hnl h hD hi ks _ (fun k hk' => hk k (List.mem_cons_of_mem _ hk')) (sqT_set2 hs (ownG g (i : Int)).toNat (ownG g (k : Int)).toNat (min (get2 0 t (ownG g (i : Int)).toNat (ownG g (k : Int)).toNat) (D i k)))
    refine ⟨t', by rw [List.foldlM_cons, hstep]; exact e, s', fun u v hu hv => ?_, fun q hq => ?_⟩
    · refine Int.le_trans (m u v hu hv) ?_
      rw [get2_set2 hs (by omega) (by omega)]
      split
      · rename_i c; rw [c.1, c.2]; exact Int.min_le_left _ _
      · exact Int.le_refl _
    · rcases List.mem_cons.1 hq with rfl | hq
      · refine Int.le_trans (m _ _ (by omega) (by omega)) ?_
        rw [get2_set2 hs (by omega) (by omega), if_pos ⟨rfl, rfl⟩]
        exact Int.min_le_right _ _
      · exact f q hq
theorem gap_all (hnl : l.length = n) (h : Part n g) (hD : ∀ (i k : Nat) (hi : i < l.length) (hk : k < l.length), face_far l[i].Vec l[k].Vec = some (D i k)) : ∀ (is : List Nat) (t : List (List Int)), (∀ i ∈ is, i < n) → sqT n t →
    ∃ t', is.foldlM (fun t i => (List.range n).foldlM (gapT l (ofsG g n) i) t) t = some t' ∧ sqT n t' ∧ (∀ u v : Nat, u < n → v < n → get2 0 t' u v ≤ get2 0 t u v) ∧ ∀ i ∈ is, ∀ k, k < n → get2 0 t' (ownG g (i : Int)).toNat (ownG g (k : Int)).toNat ≤ D i k
  | [], t, _, hs => ⟨t, rfl, hs, fun _ _ _ _ => Int.le_refl _, fun k hk => by cases hk⟩
  | i :: is, t, hi, hs => by
    have hin := hi i List.mem_cons_self
    obtain ⟨t1, e1, s1, m1, f1⟩ := gap_row hnl h hD hin (List.range n) t (fun k hk => List.mem_range.1 hk) hs
    obtain ⟨t', e, s', m, f⟩ := gap_all hnl h hD is t1 (fun k hk' => hi k (List.mem_cons_of_mem _ hk')) s1
    refine ⟨t', by rw [List.foldlM_cons, e1]; exact e, s', fun u v hu hv => Int.le_trans (m u v hu hv) (m1 u v hu hv), fun q hq k hk => ?_⟩
    rcases List.mem_cons.1 hq with rfl | hq
    · obtain ⟨a0, a1⟩ := own_in h (i := (q : Int)) (by omega) (by omega)
      obtain ⟨b0, b1⟩ := own_in h (i := (k : Int)) (by omega) (by omega)
      exact Int.le_trans (m _ _ (by omega) (by omega)) (f1 k (List.mem_range.2 hk))
    · exact f q hq k hk
theorem apart_all (h : Part n g) : ∀ (ms : List (Nat → Int)) (t : List (List Bool)), (∀ m ∈ ms, (0 ≤ m 0 ∧ m 0 < n) ∧ 0 ≤ m 1 ∧ m 1 < (n : Int)) → sqT n t →
    sqT n (ms.foldl (apartT (ofsG g n)) t) ∧ ∀ u v : Nat, u < n → v < n → (get2 false (ms.foldl (apartT (ofsG g n)) t) u v = true ↔ get2 false t u v = true ∨ ∃ m ∈ ms, (ownG g (m 0) = u ∧ ownG g (m 1) = v) ∨ (ownG g (m 1) = u ∧ ownG g (m 0) = v))
  | [], t, _, hs => ⟨hs, fun u v _ _ => by simp⟩
  | m :: ms, t, hm, hs => by
    obtain ⟨⟨h0, h1⟩, h2, h3⟩ := hm m List.mem_cons_self
    obtain ⟨a0, a1⟩ := own_in h h0 h1
    obtain ⟨b0, b1⟩ := own_in h h2 h3
    have eA : (ofsG g n).getD (m 0).toNat 0 = ownG g (m 0) := by rw [ofsG_at h (by omega), Int.toNat_of_nonneg h0]
    have eB : (ofsG g n).getD (m 1).toNat 0 = ownG g (m 1) := by rw [ofsG_at h (by omega), Int.toNat_of_nonneg h2]
    have hstep : apartT (ofsG g n) t m = set2 (set2 t (ownG g (m 0)).toNat (ownG g (m 1)).toNat true) (ownG g (m 1)).toNat (ownG g (m 0)).toNat true := by
      unfold apartT; rw [eA, eB]
    have s1 := sqT_set2 hs (ownG g (m 0)).toNat (ownG g (m 1)).toNat true
    have s2 := sqT_set2 s1 (ownG g (m 1)).toNat (ownG g (m 0)).toNat true
    rw [List.foldl_cons, hstep]
    obtain ⟨s', f⟩ := apart_all h ms _ (fun q hq => hm q (List.mem_cons_of_mem _ hq)) s2
    refine ⟨s', fun u v hu hv => ?_⟩
    rw [f u v hu hv, get2_set2 s1 (by omega) (by omega), get2_set2 hs (by omega) (by omega)]
    simp only [List.mem_cons, exists_eq_or_imp]
    by_cases c1 : u = (ownG g (m 1)).toNat ∧ v = (ownG g (m 0)).toNat
    · rw [if_pos c1]
      exact ⟨fun _ => .inr (.inl (.inr ⟨by omega, by omega⟩)), fun _ => .inl rfl⟩
    · rw [if_neg c1]
      by_cases c2 : u = (ownG g (m 0)).toNat ∧ v = (ownG g (m 1)).toNat
      · rw [if_pos c2]
        exact ⟨fun _ => .inr (.inl (.inl ⟨by omega, by omega⟩)), fun _ => .inl rfl⟩
      · rw [if_neg c2]
        constructor
        · rintro (h | h)
          · exact .inl h
          · exact .inr (.inr h)
        · rintro (h | (⟨e1, e2⟩ | ⟨e1, e2⟩) | h)
          · exact .inl h
          · exact absurd ⟨by omega, by omega⟩ c2
          · exact absurd ⟨by omega, by omega⟩ c1
          · exact .inr h
theorem newTab_eq {nots : List (Nat → Int)} (hnl : l.length = n) (hn : n ≤ 1000) (h : Part n g) (hD : ∀ (i k : Nat) (hi : i < l.length) (hk : k < l.length), face_far l[i].Vec l[k].Vec = some (D i k)) (hm : ∀ m ∈ nots, (0 ≤ m 0 ∧ m 0 < n) ∧ 0 ≤ m 1 ∧ m 1 < (n : Int)) :
    ∃ t, face_newTable l g nots = some t ∧ sqT n t.gap_ ∧ sqT n t.apart_ ∧ (∀ i k : Nat, i < n → k < n → gapV t (ownG g (i : Int)) (ownG g (k : Int)) ≤ D i k) ∧
      ∀ u v : Int, 0 ≤ u → u < n → 0 ≤ v → v < n → (apV t u v = true ↔ ∃ m ∈ nots, (ownG g (m 0) = u ∧ ownG g (m 1) = v) ∨ (ownG g (m 1) = u ∧ ownG g (m 0) = v)) := by
  have sqr : ∀ {α : Type} (z : α), sqT n (List.replicate n (List.replicate n z)) := fun z => ⟨by simp, fun r hr => by rw [List.eq_of_mem_replicate hr]; simp⟩
  obtain ⟨t', e, s', _, f⟩ := gap_all hnl h hD (List.range n) (List.replicate n (List.replicate n 774193)) (fun k hk => List.mem_range.1 hk) (sqr _)
  obtain ⟨s2, f2⟩ := apart_all h nots (List.replicate n (List.replicate n false)) hm (sqr _)
  refine ⟨⟨t', nots.foldl (apartT (ofsG g n)) (List.replicate n (List.replicate n false))⟩, ?_, s', s2, fun i k hi hk => f i (List.mem_range.2 hi) k hk, fun u v hu0 hu hv0 hv => ?_⟩
  · unfold face_newTable
    rw [hnl, if_pos ⟨fun p hp => ⟨h.inn p hp _ (h.key_mem hp), fun i hi => h.inn p hp i hi⟩, fun i hi => ⟨ownG g (i : Int), h.of_eq (i := (i : Int)) (by omega) (by omega), (own_in h (i := (i : Int)) (by omega) (by omega)).1⟩, hm, by omega⟩, e, bnd_pure]
  · unfold apV
    rw [f2 u.toNat v.toNat (by omega) (by omega)]
    have : get2 false (List.replicate n (List.replicate n false)) u.toNat v.toNat = false := by
      unfold get2
      rw [List.getD_eq_getElem?_getD, List.getD_eq_getElem?_getD, List.getElem?_replicate, if_pos (by omega), Option.getD_some, List.getElem?_replicate]
      split <;> rfl
    rw [this, Int.toNat_of_nonneg hu0, Int.toNat_of_nonneg hv0]
    simp
end
end Go.M

namespace Go.M
open Go.Md Go.Pl
set_option linter.unusedVariables false

theorem keysS_mem {g : List (Int × List Int)} {k : Int} : k ∈ keysS g ↔ k ∈ g.map (·.1) := (List.mergeSort_perm _ _).mem_iff
theorem keysS_lt {n : Nat} {g : List (Int × List Int)} (h : Part n g) : (keysS g).Pairwise fun x y => x < y := by
  have s : (keysS g).Pairwise fun x y => decide (x ≤ y) = true := List.pairwise_mergeSort (fun a b c h1 h2 => by simp at *; omega) (fun a b => by simp; omega) _
  have d : (keysS g).Nodup := (List.mergeSort_perm _ _).nodup_iff.2 h.keys
  exact (s.and d).imp fun ⟨h1, h2⟩ => by have : _ ≤ _ := of_decide_eq_true h1; omega
theorem Part.key_in {n : Nat} {g : List (Int × List Int)} (h : Part n g) {k : Int} (hk : k ∈ g.map (·.1)) : 0 ≤ k ∧ k < n := by
  obtain ⟨p, hp, rfl⟩ := List.mem_map.1 hk
  exact h.inn p hp _ (h.key_mem hp)
theorem Part.len_le {n : Nat} {g : List (Int × List Int)} (h : Part n g) : g.length ≤ n := by
  have := rise_len (keysS g) 0 n (keysS_lt h) (fun x hx => h.key_in (keysS_mem.1 hx)) (by omega)
  have e : (keysS g).length = g.length := by unfold keysS; rw [List.length_mergeSort, List.length_map]
  omega
theorem Part.keysB {n : Nat} {g : List (Int × List Int)} (h : Part n g) (hn : n ≤ 1000) : keysB g = some (keysS g) := by
  unfold Go.M.keysB
  have := h.len_le
  have hb : ∀ p ∈ g, 0 ≤ p.1 ∧ p.1 ≤ 1000000 := fun p hp => by
    have := h.key_in (List.mem_map.2 ⟨p, hp, rfl⟩)
    omega
  rw [if_pos ⟨hb, by omega⟩]
structure CInv (n : Nat) (D : Nat → Nat → Int) (musts nots : List (Nat → Int)) (g : List (Int × List Int)) (t : T_face_table) : Prop where
  part : Part n g
  s1 : sqT n t.gap_
  s2 : sqT n t.apart_
  gap : ∀ i k : Nat, i < n → k < n → ownG g (i : Int) ≠ ownG g (k : Int) → gapV t (ownG g (i : Int)) (ownG g (k : Int)) ≤ D i k
  apart : ∀ u v : Int, u ∈ g.map (·.1) → v ∈ g.map (·.1) → u ≠ v → (apV t u v = true ↔ ∃ m ∈ nots, (ownG g (m 0) = u ∧ ownG g (m 1) = v) ∨ (ownG g (m 1) = u ∧ ownG g (m 0) = v))
  not : ∀ m ∈ nots, ownG g (m 0) ≠ ownG g (m 1)
  must : ∀ m ∈ musts, ownG g (m 0) = ownG g (m 1)
section
variable {n : Nat} {D : Nat → Nat → Int} {musts nots : List (Nat → Int)} {limit : Int}
theorem cinv_step (hn : n ≤ 1000) (hsym : ∀ i k, D i k = D k i) (hmu : ∀ m ∈ musts, (0 ≤ m 0 ∧ m 0 < n) ∧ 0 ≤ m 1 ∧ m 1 < (n : Int)) (hno : ∀ m ∈ nots, (0 ≤ m 0 ∧ m 0 < n) ∧ 0 ≤ m 1 ∧ m 1 < (n : Int)) {g : List (Int × List Int)} {t : T_face_table} (h : CInv n D musts nots g t) {x y : Int} (hx : x ∈ g.map (·.1)) (hy : y ∈ g.map (·.1)) (hxy : x < y) (hap : apV t x y = false) :
    ∃ g' t', face_groups_join g x y = some g' ∧ face_table_merge t x y = some t' ∧ CInv n D musts nots g' t' ∧ g'.length < g.length := by
  obtain ⟨p, hp, rfl⟩ := List.mem_map.1 hx
  obtain ⟨q, hq, rfl⟩ := List.mem_map.1 hy
  obtain ⟨g', hj, _, J⟩ := part_join h.part hn hp hq hxy
  have hxin := h.part.key_in hx
  have hyin := h.part.key_in hy
  obtain ⟨t', ht, s1, s2, G, A⟩ := merge_eq h.s1 h.s2 hxin.1 hxy hyin.2
  have key : ∀ i : Int, 0 ≤ i → i < n → ownG g i ∈ g.map (·.1) := fun i h0 h1 => by
    obtain ⟨r, hr, _, e⟩ := h.part.own_mem h0 h1
    rw [e]; exact List.mem_map.2 ⟨r, hr, rfl⟩
  refine ⟨g', t', hj, ht, ⟨J.part, s1, s2, fun i k hi hk hne => ?_, fun u v hu hv huv => ?_, fun m hm => ?_, fun m hm => ?_⟩, J.less⟩
  · have oi := J.own (i : Int) (by omega) (by omega)
    have ok := J.own (k : Int) (by omega) (by omega)
    have ii := own_in h.part (i := (i : Int)) (by omega) (by omega)
    have ki := own_in h.part (i := (k : Int)) (by omega) (by omega)
    have base := h.gap i k hi hk
    have base2 := h.gap k i hk hi
    rw [hsym k i] at base2
    have ii' := own_in J.part (i := (i : Int)) (by omega) (by omega)
    have ki' := own_in J.part (i := (k : Int)) (by omega) (by omega)
    rw [G _ _ ii'.1 ii'.2 ki'.1 ki'.2]
    generalize ownG g' (i : Int) = u' at *
    generalize ownG g' (k : Int) = v' at *
    generalize ownG g (i : Int) = u at *
    generalize ownG g (k : Int) = v at *
    by_cases c1 : u' = p.1
    · rw [if_pos c1]
      by_cases c2 : u = q.1
      · have hv : v' = v := by
          by_cases c3 : v = q.1
          · rw [if_pos c3] at ok; omega
          · rw [if_neg c3] at ok; exact ok
        have hvq : v ≠ q.1 := fun e => by rw [if_pos e] at ok; omega
        rw [hv]
        exact Int.le_trans (Int.min_le_right _ _) (by rw [← c2]; exact base (by omega))
      · rw [if_neg c2] at oi
        have hvq : v ≠ q.1 := fun e => by rw [if_pos e] at ok; omega
        rw [if_neg hvq] at ok
        rw [ok, ← c1, oi]
        exact Int.le_trans (Int.min_le_left _ _) (base (by omega))
    · rw [if_neg c1]
      have huq : u ≠ q.1 := fun e => by rw [if_pos e] at oi; omega
      rw [if_neg huq] at oi
      by_cases c2 : v' = p.1
      · rw [if_pos c2, oi]
        by_cases c3 : v = q.1
        · exact Int.le_trans (Int.min_le_right _ _) (by rw [← c3]; exact base2 (by omega))
        · rw [if_neg c3] at ok
          exact Int.le_trans (Int.min_le_left _ _) (by rw [← c2, ok]; exact base2 (by omega))
      · rw [if_neg c2]
        have hvq : v ≠ q.1 := fun e => by rw [if_pos e] at ok; omega
        rw [if_neg hvq] at ok
        rw [oi, ok]
        exact base (by omega)
  · obtain ⟨hu1, hu2⟩ := (J.keys u).1 hu
    obtain ⟨hv1, hv2⟩ := (J.keys v).1 hv
    have ui := h.part.key_in hu1
    have vi := h.part.key_in hv1
    rw [A u v ui.1 ui.2 vi.1 vi.2]
    have own0 : ∀ m ∈ nots, ownG g' (m 0) = if ownG g (m 0) = q.1 then p.1 else ownG g (m 0) := fun m hm => J.own _ (hno m hm).1.1 (hno m hm).1.2
    have own1 : ∀ m ∈ nots, ownG g' (m 1) = if ownG g (m 1) = q.1 then p.1 else ownG g (m 1) := fun m hm => J.own _ (hno m hm).2.1 (hno m hm).2.2
    by_cases c1 : u = p.1
    · subst c1
      rw [if_pos rfl, Bool.or_eq_true, h.apart p.1 v hx hv1 huv, h.apart q.1 v hy hv1 (Ne.symm hv2)]
      constructor
      · rintro (⟨m, hm, h'⟩ | ⟨m, hm, h'⟩)
        · refine ⟨m, hm, ?_⟩
          rw [own0 m hm, own1 m hm]
          rcases h' with ⟨e1, e2⟩ | ⟨e1, e2⟩
          · rw [e1, e2]; exact .inl ⟨by split <;> omega, by rw [if_neg hv2]⟩
          · rw [e1, e2]; exact .inr ⟨by split <;> omega, by rw [if_neg hv2]⟩
        · refine ⟨m, hm, ?_⟩
          rw [own0 m hm, own1 m hm]
          rcases h' with ⟨e1, e2⟩ | ⟨e1, e2⟩
          · rw [e1, e2]; exact .inl ⟨by rw [if_pos rfl], by rw [if_neg hv2]⟩
          · rw [e1, e2]; exact .inr ⟨by rw [if_pos rfl], by rw [if_neg hv2]⟩
      · rintro ⟨m, hm, h'⟩
        rw [own0 m hm, own1 m hm] at h'
        have back : ∀ b : Int, (if b = q.1 then p.1 else b) = v → b = v := fun b e => by
          by_cases c : b = q.1
          · rw [if_pos c] at e; exact absurd e huv
          · rwa [if_neg c] at e
        have fore : ∀ a : Int, (if a = q.1 then p.1 else a) = p.1 → a = q.1 ∨ a = p.1 := fun a e => by
          by_cases c : a = q.1
          · exact .inl c
          · rw [if_neg c] at e; exact .inr e
        rcases h' with ⟨e1, e2⟩ | ⟨e1, e2⟩
        · rcases fore _ e1 with c | c
          · exact .inr ⟨m, hm, .inl ⟨c, back _ e2⟩⟩
          · exact .inl ⟨m, hm, .inl ⟨c, back _ e2⟩⟩
        · rcases fore _ e1 with c | c
          · exact .inr ⟨m, hm, .inr ⟨c, back _ e2⟩⟩
          · exact .inl ⟨m, hm, .inr ⟨c, back _ e2⟩⟩
    · rw [if_neg c1]
      have backu : ∀ b : Int, (if b = q.1 then p.1 else b) = u ↔ b = u := fun b => by
        by_cases c : b = q.1
        · rw [if_pos c, c]; exact ⟨fun e => absurd e.symm c1, fun e => absurd e.symm hu2⟩
        · rw [if_neg c]
      by_cases c2 : v = p.1
      · subst c2
        have fore : ∀ a : Int, (if a = q.1 then p.1 else a) = p.1 ↔ a = q.1 ∨ a = p.1 := fun a => by
          by_cases c : a = q.1
          · rw [if_pos c]; exact ⟨fun _ => .inl c, fun _ => rfl⟩
          · rw [if_neg c]; exact ⟨.inr, fun h => h.elim (fun h => absurd h c) id⟩
        rw [if_pos rfl, Bool.or_eq_true, h.apart p.1 u hx hu1 (Ne.symm huv), h.apart q.1 u hy hu1 (Ne.symm hu2)]
        constructor
        · rintro (⟨m, hm, h'⟩ | ⟨m, hm, h'⟩)
          · refine ⟨m, hm, ?_⟩
            rw [own0 m hm, own1 m hm, backu, backu, fore, fore]
            rcases h' with ⟨e1, e2⟩ | ⟨e1, e2⟩
            · exact .inr ⟨e2, .inr e1⟩
            · exact .inl ⟨e2, .inr e1⟩
          · refine ⟨m, hm, ?_⟩
            rw [own0 m hm, own1 m hm, backu, backu, fore, fore]
            rcases h' with ⟨e1, e2⟩ | ⟨e1, e2⟩
            · exact .inr ⟨e2, .inl e1⟩
            · exact .inl ⟨e2, .inl e1⟩
        · rintro ⟨m, hm, h'⟩
          rw [own0 m hm, own1 m hm, backu, backu, fore, fore] at h'
          rcases h' with ⟨e1, c | c⟩ | ⟨e1, c | c⟩
          · exact .inr ⟨m, hm, .inr ⟨c, e1⟩⟩
          · exact .inl ⟨m, hm, .inr ⟨c, e1⟩⟩
          · exact .inr ⟨m, hm, .inl ⟨c, e1⟩⟩
          · exact .inl ⟨m, hm, .inl ⟨c, e1⟩⟩
      · have backv : ∀ b : Int, (if b = q.1 then p.1 else b) = v ↔ b = v := fun b => by
          by_cases c : b = q.1
          · rw [if_pos c, c]; exact ⟨fun e => absurd e.symm c2, fun e => absurd e.symm hv2⟩
          · rw [if_neg c]
        rw [if_neg c2, h.apart u v hu1 hv1 huv]
        constructor
        · rintro ⟨m, hm, h'⟩
          exact ⟨m, hm, by rw [own0 m hm, own1 m hm, backu, backv, backu, backv]; exact h'⟩
        · rintro ⟨m, hm, h'⟩
          rw [own0 m hm, own1 m hm, backu, backv, backu, backv] at h'
          exact ⟨m, hm, h'⟩
  · have := h.not m hm
    rw [J.own _ (hno m hm).1.1 (hno m hm).1.2, J.own _ (hno m hm).2.1 (hno m hm).2.2]
    intro e
    have hA := h.apart p.1 q.1 hx hy (by omega)
    have : apV t p.1 q.1 = true := hA.2 ⟨m, hm, by
      by_cases c1 : ownG g (m 0) = q.1
      · rw [if_pos c1] at e
        by_cases c2 : ownG g (m 1) = q.1
        · exact absurd (c1.trans c2.symm) (h.not m hm)
        · rw [if_neg c2] at e; exact .inr ⟨e.symm, c1⟩
      · rw [if_neg c1] at e
        by_cases c2 : ownG g (m 1) = q.1
        · rw [if_pos c2] at e; exact .inl ⟨e, c2⟩
        · rw [if_neg c2] at e; exact absurd e (h.not m hm)⟩
    rw [hap] at this; cases this
  · rw [J.own _ (hmu m hm).1.1 (hmu m hm).1.2, J.own _ (hmu m hm).2.1 (hmu m hm).2.2, h.must m hm]
theorem clu_eq (hn : n ≤ 1000) (hlim : 0 ≤ limit ∧ limit ≤ 1000000000) (hsym : ∀ i k, D i k = D k i) (hmu : ∀ m ∈ musts, (0 ≤ m 0 ∧ m 0 < n) ∧ 0 ≤ m 1 ∧ m 1 < (n : Int)) (hno : ∀ m ∈ nots, (0 ≤ m 0 ∧ m 0 < n) ∧ 0 ≤ m 1 ∧ m 1 < (n : Int)) {g : List (Int × List Int)} {t : T_face_table} (h : CInv n D musts nots g t) :
    ∃ g', fix (face_cluL limit) (g, t) = some g' ∧ ∃ t', CInv n D musts nots g' t' ∧ ∀ u v : Int, u ∈ g'.map (·.1) → v ∈ g'.map (·.1) → u < v → apV t' u v = true ∨ limit < gapV t' u v := by
  refine fix_run (F := face_cluL limit) (fun s => CInv n D musts nots s.1 s.2) (fun s => s.1.length) _ ?_ (g, t) h
  rintro ⟨g, t⟩ hI
  have hI : CInv n D musts nots g t := hI
  have hlt := keysS_lt hI.part
  obtain ⟨r, hr, hyes, hno'⟩ := nearest_eq (ks := keysS g) (limit := limit) hI.s1 hI.s2 (fun k hk => hI.part.key_in (keysS_mem.1 hk)) (by
    have := hI.part.len_le
    have e : (keysS g).length = g.length := by unfold keysS; rw [List.length_mergeSort, List.length_map]
    omega) hlim
  cases hb : r.2.2 with
  | true =>
    obtain ⟨⟨a, b, hab, ha, hb'⟩, hap, _⟩ := hyes hb
    have hx := keysS_mem.1 (List.mem_of_getElem? ha)
    have hy := keysS_mem.1 (List.mem_of_getElem? hb')
    have hxy : r.1 < r.2.1 := by
      obtain ⟨al, ae⟩ := List.getElem?_eq_some_iff.1 ha
      obtain ⟨bl, be⟩ := List.getElem?_eq_some_iff.1 hb'
      rw [← ae, ← be]
      exact List.pairwise_iff_getElem.1 hlt a b al bl hab
    obtain ⟨g', t', h1, h2, h3, h4⟩ := cinv_step hn hsym hmu hno hI hx hy hxy hap
    refine .inr ⟨(g', t'), h3, h4, fun next => ?_⟩
    unfold face_cluL
    simp only [hI.part.keysB hn, bnd_pure, hr, hb, h1, h2]
    rfl
  | false =>
    refine .inl ⟨g, ⟨t, hI, fun u v hu hv huv => ?_⟩, fun next => ?_⟩
    · obtain ⟨a, ha⟩ := List.mem_iff_getElem?.1 (keysS_mem.2 hu)
      obtain ⟨b, hb'⟩ := List.mem_iff_getElem?.1 (keysS_mem.2 hv)
      refine hno' hb a b u v ?_ ha hb'
      obtain ⟨al, ae⟩ := List.getElem?_eq_some_iff.1 ha
      obtain ⟨bl, be⟩ := List.getElem?_eq_some_iff.1 hb'
      rcases Nat.lt_trichotomy a b with c | c | c
      · exact c
      · subst c; rw [ae] at be; omega
      · have := List.pairwise_iff_getElem.1 hlt b a bl al c
        rw [ae, be] at this; omega
    · unfold face_cluL
      simp only [hI.part.keysB hn, bnd_pure, hr, hb]
      rfl
theorem joined_eq (hn : n ≤ 1000) : ∀ (ms done : List (Nat → Int)) (g : List (Int × List Int)), Part n g → (∀ m ∈ ms, (0 ≤ m 0 ∧ m 0 < n) ∧ 0 ≤ m 1 ∧ m 1 < (n : Int)) → (∀ m ∈ done, (0 ≤ m 0 ∧ m 0 < n) ∧ 0 ≤ m 1 ∧ m 1 < (n : Int)) → (∀ m ∈ done, ownG g (m 0) = ownG g (m 1)) →
    ∃ g', face_joined ms g = some g' ∧ Part n g' ∧ (∀ m ∈ ms, ownG g' (m 0) = ownG g' (m 1)) ∧ ∀ m ∈ done, ownG g' (m 0) = ownG g' (m 1)
  | [], done, g, hp, _, _, hd => ⟨g, rfl, hp, (fun m hm => nomatch hm), hd⟩
  | m :: ms, done, g, hp, hm, hdi, hd => by
    obtain ⟨⟨h0, h1⟩, h2, h3⟩ := hm m List.mem_cons_self
    obtain ⟨p, hpg, _, ep⟩ := hp.own_mem h0 h1
    obtain ⟨q, hqg, _, eq⟩ := hp.own_mem h2 h3
    have step : ∃ g', face_groups_join g (ownG g (m 0)) (ownG g (m 1)) = some g' ∧ Part n g' ∧ ownG g' (m 0) = ownG g' (m 1) ∧ ∀ z ∈ done, ownG g' (z 0) = ownG g' (z 1) := by
      rw [ep, eq]
      rcases Int.lt_trichotomy p.1 q.1 with c | c | c
      · obtain ⟨g', j1, _, J⟩ := part_join hp hn hpg hqg c
        refine ⟨g', j1, J.part, ?_, fun z hz => ?_⟩
        · rw [J.own _ h0 h1, J.own _ h2 h3, ep, eq, if_pos rfl, if_neg (by omega)]
        · rw [J.own _ (hdi z hz).1.1 (hdi z hz).1.2, J.own _ (hdi z hz).2.1 (hdi z hz).2.2, hd z hz]
      · refine ⟨g, by unfold face_groups_join; rw [if_pos c], hp, by rw [ep, eq, c], hd⟩
      · obtain ⟨g', _, j2, J⟩ := part_join hp hn hqg hpg c
        refine ⟨g', j2, J.part, ?_, fun z hz => ?_⟩
        · rw [J.own _ h0 h1, J.own _ h2 h3, ep, eq, if_pos rfl, if_neg (by omega)]
        · rw [J.own _ (hdi z hz).1.1 (hdi z hz).1.2, J.own _ (hdi z hz).2.1 (hdi z hz).2.2, hd z hz]
    obtain ⟨g1, e1, p1, o1, d1⟩ := step
    obtain ⟨g', e', p', f', d'⟩ := joined_eq hn ms (m :: done) g1 p1 (fun z hz => hm z (List.mem_cons_of_mem _ hz)) (fun z hz => by
      rcases List.mem_cons.1 hz with rfl | hz
      · exact hm z List.mem_cons_self
      · exact hdi z hz) (fun z hz => by
      rcases List.mem_cons.1 hz with rfl | hz
      · exact o1
      · exact d1 z hz)
    refine ⟨g', ?_, p', fun z hz => ?_, fun z hz => d' z (List.mem_cons_of_mem _ hz)⟩
    · unfold face_joined
      rw [hp.of_eq h0 h1, bnd_pure, hp.of_eq h2 h3, bnd_pure, e1, bnd_pure, e']
    · rcases List.mem_cons.1 hz with rfl | hz
      · exact d' z List.mem_cons_self
      · exact f' z hz
end
end Go.M

namespace Go.M
open Go.Md Go.Pl
set_option linter.unusedVariables false

structure Done (n : Nat) (D : Nat → Nat → Int) (musts nots : List (Nat → Int)) (limit : Int) (g : List (Int × List Int)) : Prop where
  part : Part n g
  must : ∀ m ∈ musts, ownG g (m 0) = ownG g (m 1)
  not : ∀ m ∈ nots, ownG g (m 0) ≠ ownG g (m 1)
  far : ∀ u v : Int, u ∈ g.map (·.1) → v ∈ g.map (·.1) → u < v → (∃ m ∈ nots, (ownG g (m 0) = u ∧ ownG g (m 1) = v) ∨ (ownG g (m 1) = u ∧ ownG g (m 0) = v)) ∨ ∀ i k : Nat, i < n → k < n → ownG g (i : Int) = u → ownG g (k : Int) = v → limit < D i k
theorem clustered_eq {l : List T_face_Likeness} {b : T_face_bonds} {limit : Int} {n : Nat} {D : Nat → Nat → Int} (hnl : l.length = n) (hn : n ≤ 1000) (hlim : 0 ≤ limit ∧ limit ≤ 1000000000) (hsym : ∀ i k, D i k = D k i)
    (hD : ∀ (i k : Nat) (hi : i < l.length) (hk : k < l.length), face_far l[i].Vec l[k].Vec = some (D i k)) (hmu : ∀ m ∈ b.musts_, (0 ≤ m 0 ∧ m 0 < n) ∧ 0 ≤ m 1 ∧ m 1 < (n : Int)) (hno : ∀ m ∈ b.nots_, (0 ≤ m 0 ∧ m 0 < n) ∧ 0 ≤ m 1 ∧ m 1 < (n : Int))
    (hap : ∀ g, face_bonds_joined b (n : Int) = some g → ∀ m ∈ b.nots_, ownG g (m 0) ≠ ownG g (m 1)) :
    ∃ g, Done n D b.musts_ b.nots_ limit g ∧ face_clustered l b limit = face_outL l g (keysS g) [] := by
  obtain ⟨g1, e1, p1, m1, _⟩ := joined_eq hn b.musts_ [] (face_each n) (part_each n) hmu (fun m hm => nomatch hm) (fun m hm => nomatch hm)
  have j1 : face_bonds_joined b (n : Int) = some g1 := by
    unfold face_bonds_joined
    rw [if_pos ⟨by omega, by omega⟩, Int.toNat_natCast, e1]
  obtain ⟨t, e2, s1, s2, G, A⟩ := newTab_eq hnl hn p1 hD hno
  have C : CInv n D b.musts_ b.nots_ g1 t := ⟨p1, s1, s2, fun i k hi hk _ => G i k hi hk, fun u v hu hv _ => A u v (p1.key_in hu).1 (p1.key_in hu).2 (p1.key_in hv).1 (p1.key_in hv).2, hap g1 j1, m1⟩
  obtain ⟨g, e3, t', C', far⟩ := clu_eq hn hlim hsym hmu hno C
  refine ⟨g, ⟨C'.part, C'.must, C'.not, fun u v hu hv huv => ?_⟩, ?_⟩
  · rcases far u v hu hv huv with h | h
    · exact .inl ((C'.apart u v hu hv (by omega)).1 h)
    · refine .inr fun i k hi hk ei ek => ?_
      have := C'.gap i k hi hk (by omega)
      rw [ei, ek] at this
      omega
  · unfold face_clustered
    rw [hnl, j1, bnd_pure, e2, bnd_pure, e3, bnd_pure, C'.part.keysB hn, bnd_pure]
theorem ids_eq {l : List T_face_Likeness} {n : Nat} (hnl : l.length = n) (hn : n ≤ 1000) : ∀ (ns : List Int) (ids : List Int), (∀ i ∈ ns, 0 ≤ i ∧ i < n) → ns.length + ids.length ≤ 1000000 → face_idsL l ns ids = some (ids ++ ns.map fun i => (l.getD i.toNat default).Id)
  | [], ids, _, _ => by simp [face_idsL]
  | i :: ns, ids, h, hl => by
    obtain ⟨h0, h1⟩ := h i List.mem_cons_self
    simp only [List.length_cons] at hl
    have hg : gAt l i = some (l.getD i.toNat default) := by
      rw [gAt_ok h0 (by omega)]
      simp [List.getD_eq_getElem?_getD, List.getElem?_eq_getElem (show i.toNat < l.length by omega)]
    unfold face_idsL
    rw [hg, bnd_pure, gApp_ok (by simp only [List.length_singleton]; omega), bnd_pure, ids_eq hnl hn ns _ (fun j hj => h j (List.mem_cons_of_mem _ hj)) (by simp only [List.length_append, List.length_singleton]; omega)]
    simp
def rowIds (l : List T_face_Likeness) (g : List (Int × List Int)) (k : Int) : List Int := ((mGet g k).getD []).map fun i => (l.getD i.toNat default).Id
theorem out_eq {l : List T_face_Likeness} {n : Nat} {g : List (Int × List Int)} (hnl : l.length = n) (hn : n ≤ 1000) (h : Part n g) : ∀ (ks : List Int) (out : List (List Int)), (∀ k ∈ ks, k ∈ g.map (·.1)) → ks.length + out.length ≤ 1000000 → face_outL l g ks out = some (out ++ ks.map (rowIds l g))
  | [], out, _, _ => by simp [face_outL]
  | k :: ks, out, hk, hl => by
    obtain ⟨p, hp, e⟩ := List.mem_map.1 (hk k List.mem_cons_self)
    simp only [List.length_cons] at hl
    have hg : mGet g k = some p.2 := by rw [← e]; exact h.get hp
    have hr : rowIds l g k = p.2.map fun i => (l.getD i.toNat default).Id := by unfold rowIds; rw [hg]; rfl
    unfold face_outL
    rw [hg, bnd_pure, ids_eq hnl hn p.2 [] (fun i hi => h.inn p hp i hi) (by have := h.row_len hp; simp; omega), bnd_pure, List.nil_append, ← hr, gApp_ok (by simp only [List.length_singleton]; omega), bnd_pure, out_eq hnl hn h ks _ (fun j hj => hk j (List.mem_cons_of_mem _ hj)) (by simp only [List.length_append, List.length_singleton]; omega)]
    simp
end Go.M

namespace Go.M
open Go.Md Go.Pl

def okN (x : Int) : Bool := decide (-127 ≤ x ∧ x ≤ 127)
theorem okN_iff {x : Int} : okN x = true ↔ -127 ≤ x ∧ x ≤ 127 := by simp [okN]
def c12 (v : Nat → Int) (j : Nat) : Int := if okN (v j) = true then 0 else 2
def vecF (v : Nat → Int) : Int := firstE (c12 v) 12 0

theorem outside_eq (a b c : Int) : face_outside a b c = some (decide (a < b ∨ c < a)) := by
  unfold face_outside
  rw [cnd_if]; by_cases h : a < b <;> simp [h]

theorem face_CheckVec_eq (v : Nat → Int) : face_CheckVec v = some (vecF v) := by
  unfold face_CheckVec vecF
  refine scan 12 _ (fun next k hk => ?_) fun next => ?_
  · unfold face_CheckVec_l1 c12
    by_cases h : okN (v k) = true
    · have h' := okN_iff.1 h
      rw [if_pos h]
      simp (disch := omega) only [cnd_if, gI_ok, gIx_nat, bnd_pure, outside_eq, if_pos, if_neg, if_true]
    · have h' : ¬ (-127 ≤ v k ∧ v k ≤ 127) := fun hh => h (okN_iff.2 hh)
      rw [if_neg h]
      simp (disch := omega) only [cnd_if, gI_ok, gIx_nat, bnd_pure, outside_eq, if_pos, if_neg]
  · unfold face_CheckVec_l1
    rfl

theorem vecF_ok {w : Nat → Int} (h : vecF w = 0) (j : Nat) (hj : j < 12) : -127 ≤ w j ∧ w j ≤ 127 := by
  have := firstE_zero h j (by omega) (by omega)
  unfold c12 at this
  by_cases hh : okN (w j) = true
  · exact okN_iff.1 hh
  · rw [if_neg hh] at this; cases this

def vecsF (l : List (Nat → Int)) : Int := firstE (fun j => vecF (l.getD j fun _ => 0)) l.length 0

theorem checkVecs_eq (l : List (Nat → Int)) (hl : l.length ≤ 9223372036854775807) : face_checkVecs l = some (vecsF l) := by
  unfold face_checkVecs vecsF
  refine scan l.length _ (fun next k hk => ?_) fun next => ?_
  · unfold face_checkVecs_l1
    simp only [cnd_if, gAt_nat hk, bnd_pure, face_CheckVec_eq]
    rw [if_pos (by omega), gI_ok (by omega), bnd_pure, List.getD_eq_getElem?_getD, List.getElem?_eq_getElem hk, Option.getD_some]
    by_cases h : vecF l[k] = 0 <;> simp [h]
  · unfold face_checkVecs_l1
    rw [cnd_if, if_neg (by omega)]

def likeF (l : List T_face_Likeness) (j : Nat) : Int :=
  if ¬ (1 ≤ (l.getD j default).Id ∧ (l.getD j default).Id ≤ 1000000) ∨ ¬ (1 ≤ (l.getD j default).Photo ∧ (l.getD j default).Photo ≤ 1000000) then 2
  else if 0 < j ∧ (l.getD j default).Id ≤ (l.getD (j - 1) default).Id then 5 else vecF (l.getD j default).Vec

theorem at_D {α : Type} [Inhabited α] {l : List α} {k : Nat} (h : k < l.length) : l.getD k default = l[k] := by
  rw [List.getD_eq_getElem?_getD, List.getElem?_eq_getElem h]; rfl

theorem check_eq (l : List T_face_Likeness) (hl : l.length ≤ 9223372036854775807) : face_Check l = some (if 300 < l.length then 4 else firstE (likeF l) l.length 0) := by
  unfold face_Check
  rw [cnd_if]
  by_cases h3 : 300 < l.length
  · rw [if_pos (by omega), if_pos h3]
  · rw [if_neg (by omega), if_neg h3]
    refine scan l.length _ (fun next k hk => ?_) fun next => ?_
    · unfold face_Check_l1 likeF
      rw [at_D hk]
      simp (disch := omega) only [cnd_if, gAt_nat, bnd_pure, if_pos, outside_eq]
      by_cases h1 : 1 ≤ l[k].Id ∧ l[k].Id ≤ 1000000
      · by_cases h2 : 1 ≤ l[k].Photo ∧ l[k].Photo ≤ 1000000
        · have hh : ¬ (¬ (1 ≤ l[k].Id ∧ l[k].Id ≤ 1000000) ∨ ¬ (1 ≤ l[k].Photo ∧ l[k].Photo ≤ 1000000)) := by omega
          rw [if_neg (by omega), if_neg (by omega), if_neg hh]
          have hj2 : face_Check_j2 (k : Int) next l[k] = if vecF l[k].Vec = 0 then next ((k : Int) + 1) else some (vecF l[k].Vec) := by
            unfold face_Check_j2
            rw [face_CheckVec_eq, bnd_pure, gI_ok (by omega), bnd_pure, cnd_if]
            by_cases hv : vecF l[k].Vec = 0 <;> simp [hv]
          by_cases hk0 : 0 < k
          · have hm : (l.getD (k - 1) default) = l[k - 1] := at_D (show k - 1 < l.length by omega)
            rw [if_pos (by omega), gI_ok (by omega), bnd_pure, show ((k : Int) - 1) = ((k - 1 : Nat) : Int) from by omega, gAt_nat (by omega), bnd_pure, hm]
            by_cases hle : l[k].Id ≤ l[k - 1].Id
            · have hc : (if 0 < k ∧ l[k].Id ≤ l[k - 1].Id then (5 : Int) else vecF l[k].Vec) = 5 := if_pos ⟨hk0, hle⟩
              rw [if_pos hle, hc, if_neg (by decide)]
            · have hc : (if 0 < k ∧ l[k].Id ≤ l[k - 1].Id then (5 : Int) else vecF l[k].Vec) = vecF l[k].Vec := if_neg fun h => hle h.2
              rw [if_neg hle, hc, hj2]
          · have hc : (if 0 < k ∧ l[k].Id ≤ (l.getD (k - 1) default).Id then (5 : Int) else vecF l[k].Vec) = vecF l[k].Vec := if_neg fun h => hk0 h.1
            rw [if_neg (by omega), hc, hj2]
        · have hh : ¬ (1 ≤ l[k].Id ∧ l[k].Id ≤ 1000000) ∨ ¬ (1 ≤ l[k].Photo ∧ l[k].Photo ≤ 1000000) := .inr h2
          rw [if_neg (by omega), if_pos (by omega), if_pos hh, if_neg (by decide)]
      · have hh : ¬ (1 ≤ l[k].Id ∧ l[k].Id ≤ 1000000) ∨ ¬ (1 ≤ l[k].Photo ∧ l[k].Photo ≤ 1000000) := .inl h1
        rw [if_pos (by omega), if_pos hh, if_neg (by decide)]
    · unfold face_Check_l1
      rw [cnd_if, if_neg (by omega)]

end Go.M

namespace Go.M
open Go.Md Go.Pl

def farS (u v : Nat → Int) (k : Nat) (s : Int) : Int := (List.range' k (12 - k)).foldl (fun s j => s + (u j - v j) * (u j - v j)) s
def farV (u v : Nat → Int) : Int := farS u v 0 0

theorem sq_bd {x : Int} (hx : -254 ≤ x ∧ x ≤ 254) : 0 ≤ x * x ∧ x * x ≤ 64516 := by
  refine ⟨?_, ?_⟩
  · rcases Int.le_total 0 x with h0 | h0
    · exact Int.mul_nonneg h0 h0
    · exact Int.mul_nonneg_of_nonpos_of_nonpos h0 h0
  · rcases Int.le_total 0 x with h0 | h0
    · have := Int.mul_le_mul hx.2 hx.2 h0 (by omega); omega
    · have := Int.mul_le_mul (show -x ≤ 254 by omega) (show -x ≤ 254 by omega) (by omega) (by omega)
      rw [Int.neg_mul_neg] at this; omega

theorem farS_bd (u v : Nat → Int) (hu : vecF u = 0) (hv : vecF v = 0) : ∀ (m k : Nat) (s : Int), k + m = 12 → 0 ≤ s → s ≤ farS u v k s ∧ farS u v k s ≤ s + m * 64516 := by
  intro m
  induction m with
  | zero => intro k s h hs; have : k = 12 := by omega
            subst this; simp [farS]
  | succ m ih =>
    intro k s h hs
    have h1 := vecF_ok hu k (by omega)
    have h2 := vecF_ok hv k (by omega)
    have h3 := sq_bd (x := u k - v k) (by omega)
    have e : farS u v k s = farS u v (k + 1) (s + (u k - v k) * (u k - v k)) := by
      unfold farS
      rw [show 12 - k = (12 - (k + 1)) + 1 from by omega, List.range'_succ, List.foldl_cons]
    have := ih (k + 1) (s + (u k - v k) * (u k - v k)) (by omega) (by omega)
    rw [e]
    omega

theorem farV_bd (u v : Nat → Int) (hu : vecF u = 0) (hv : vecF v = 0) : 0 ≤ farV u v ∧ farV u v ≤ 774192 := by
  have := farS_bd u v hu hv 12 0 0 (by omega) (by omega)
  unfold farV; omega

theorem farV_symm (u v : Nat → Int) : farV u v = farV v u := by
  have : (fun (s : Int) (j : Nat) => s + (u j - v j) * (u j - v j)) = fun s j => s + (v j - u j) * (v j - u j) := by
    funext s j
    rw [show v j - u j = -(u j - v j) by omega, Int.neg_mul_neg]
  unfold farV farS
  rw [this]

theorem far_eq (u v : Nat → Int) (hu : vecF u = 0) (hv : vecF v = 0) : face_far u v = some (farV u v) := by
  unfold face_far
  refine up2r (σ := Int) 12 (fun k s => some (farS u v k s)) (fun k s => 0 ≤ s ∧ s ≤ k * 64516) (fun next k s hk hI ih => ?_) 0 (by simp)
  unfold face_far_l1
  by_cases h : k < 12
  · have h1 := vecF_ok hu k h
    have h2 := vecF_ok hv k h
    have h3 := sq_bd (x := u k - v k) (by omega)
    simp (disch := omega) only [cnd_if, gI_ok, gIx_nat, bnd_pure, if_pos, if_neg]
    rw [ih _ h (by omega)]
    unfold farS
    rw [show 12 - k = (12 - (k + 1)) + 1 from by omega, List.range'_succ, List.foldl_cons]
  · have : k = 12 := by omega
    subst this
    rfl

theorem concat_eq (a b : List Int) (ha : a.length + b.length ≤ 35184372088832) : slices_Concat_int [a, b] = some (a ++ b) := by
  unfold slices_Concat_int
  refine (fix_goto (F := fun next3 s => slices_Concat_int_l3 [a, b] next3 s.1 s.2) ((a.length : Int), 1) fun next => ?_).trans ((fix_goto (F := fun next3 s => slices_Concat_int_l3 [a, b] next3 s.1 s.2) ((a.length : Int) + (b.length : Int), 2) fun next => ?_).trans (fix_done fun next => ?_))
  · show slices_Concat_int_l3 [a, b] next 0 0 = _
    unfold slices_Concat_int_l3
    rw [decT (by simp), cnd_true, show gAt [a, b] 0 = some a from rfl, bnd_pure, gI_ok (by omega), bnd_pure, decF (by omega), cnd_false, gI_ok (by omega), bnd_pure]
    simp
  · show slices_Concat_int_l3 [a, b] next (a.length : Int) 1 = _
    unfold slices_Concat_int_l3
    rw [decT (by simp), cnd_true, show gAt [a, b] 1 = some b from rfl, bnd_pure, gI_ok (by omega), bnd_pure, decF (by omega), cnd_false, gI_ok (by omega), bnd_pure]
    rfl
  · show slices_Concat_int_l3 [a, b] next ((a.length : Int) + (b.length : Int)) 2 = _
    unfold slices_Concat_int_l3
    rw [decF (by simp), cnd_false]
    unfold slices_Concat_int_j1
    rw [gGroC_ok (by omega), bnd_pure]
    have hc : ((a.length : Int) + (b.length : Int)).toNat = a.length + b.length := by omega
    refine (fix_goto (F := fun next2 s => slices_Concat_int_l2 [a, b] ((a.length : Int) + (b.length : Int)).toNat next2 s.1 s.2) (1, a) fun next => ?_).trans ((fix_goto (F := fun next2 s => slices_Concat_int_l2 [a, b] ((a.length : Int) + (b.length : Int)).toNat next2 s.1 s.2) (2, a ++ b) fun next => ?_).trans (fix_done fun next => ?_))
    · show slices_Concat_int_l2 [a, b] _ next 0 [] = _
      unfold slices_Concat_int_l2
      rw [decT (by simp), cnd_true, show gAt [a, b] 0 = some a from rfl, bnd_pure, gApC_ok (by rw [hc]; simp; omega), bnd_pure, gI_ok (by omega), bnd_pure]
      rfl
    · show slices_Concat_int_l2 [a, b] _ next 1 a = _
      unfold slices_Concat_int_l2
      rw [decT (by simp), cnd_true, show gAt [a, b] 1 = some b from rfl, bnd_pure, gApC_ok (by rw [hc]; omega), bnd_pure, gI_ok (by omega), bnd_pure]
      rfl
    · show slices_Concat_int_l2 [a, b] _ next 2 (a ++ b) = _
      unfold slices_Concat_int_l2
      rw [decF (by simp), cnd_false]

structure Good (l : List T_face_Likeness) : Prop where
  len : l.length ≤ 300
  rise : Rise l
  vec : ∀ x ∈ l, vecF x.Vec = 0

theorem likeF_get (l : List T_face_Likeness) (j : Nat) (h : j < l.length) (h0 : likeF l j = 0) : vecF l[j].Vec = 0 ∧ ∀ (i : Nat) (hi : i + 1 = j), l[i].Id < l[j].Id := by
  unfold likeF at h0
  rw [at_D h] at h0
  split at h0
  · cases h0
  split at h0
  · cases h0
  · rename_i h1 h2
    refine ⟨h0, fun i hi => ?_⟩
    subst hi
    rw [show i + 1 - 1 = i from rfl, at_D (by omega)] at h2
    omega

theorem good_of (l : List T_face_Likeness) (hl : l.length ≤ 300) (h : firstE (likeF l) l.length 0 = 0) : Good l := by
  have hj := fun (j : Nat) (hj : j < l.length) => likeF_get l j hj (firstE_zero h j (Nat.zero_le _) (by omega))
  refine ⟨hl, List.pairwise_iff_getElem.2 ?_, fun x hx => ?_⟩
  · have step : ∀ d i (hi : i < l.length) (hd : i + d + 1 < l.length), l[i].Id < l[i + d + 1].Id := by
      intro d
      induction d with
      | zero => intro i hi hd; exact (hj (i + 0 + 1) hd).2 i rfl
      | succ d ih =>
        intro i hi hd
        have h1 := ih i hi (by omega)
        have h2 := (hj (i + (d + 1) + 1) hd).2 (i + d + 1) rfl
        omega
    intro i j hi hj hij
    have := step (j - i - 1) i hi (by omega)
    simpa [show i + (j - i - 1) + 1 = j by omega] using this
  · obtain ⟨j, hj', rfl⟩ := List.getElem_of_mem hx
    exact (hj j hj').1

def like (l : List T_face_Likeness) (id : Int) : T_face_Likeness := (l.find? (has id)).getD default
theorem any_idx {l : List T_face_Likeness} {id : Int} (h : l.any (has id) = true) : ∃ (k : Nat) (hk : k < l.length), idx (has id) l = k ∧ l[k] = like l id ∧ l[k].Id = id := by
  have h0 := idx_nn (has id) l
  rw [h] at h0
  unfold idx at h0 ⊢
  cases hf : l.findIdx? (has id) with
  | none => rw [hf] at h0; simp at h0
  | some k =>
    have h1 := List.findIdx?_eq_some_iff_getElem.1 hf
    obtain ⟨hk, h2, h3⟩ := h1
    refine ⟨k, hk, rfl, ?_, by simpa [has] using h2⟩
    unfold like
    have : l.find? (has id) = some l[k] := by
      rw [List.find?_eq_some_iff_getElem]
      exact ⟨h2, k, hk, rfl, fun j hj => by simpa using h3 j hj⟩
    rw [this]; rfl
end Go.M

namespace Go.M
open Go.Md Go.Pl
set_option linter.unusedVariables false

def posI (l : List T_face_Likeness) (id : Int) : Int := idx (has id) l
theorem pos_at {l : List T_face_Likeness} (hg : Good l) {id : Int} (h : l.any (has id) = true) : face_at l id = some (posI l id, true) ∧ 0 ≤ posI l id ∧ posI l id < l.length ∧ ∃ hk : (posI l id).toNat < l.length, l[(posI l id).toNat].Id = id := by
  have := hg.len
  obtain ⟨i, b, h1, h2, h3⟩ := at_eq l id hg.rise (by omega)
  rw [h] at h2
  obtain ⟨k, hk, h4, h5, h6⟩ := any_idx h
  have e : posI l id = (k : Int) := h4
  refine ⟨by rw [h1, h2, h3 h2]; rfl, by omega, by omega, ?_⟩
  have ek : (posI l id).toNat = k := by omega
  refine ⟨by omega, ?_⟩
  simp only [ek]; exact h6
def pairB (l : List T_face_Likeness) (b : T_face_Bond) : Nat → Int := ofL [posI l b.A, posI l b.B]
def addB (l : List T_face_Likeness) (s : List (Nat → Int) × List (Nat → Int)) (b : T_face_Bond) : List (Nat → Int) × List (Nat → Int) := if b.Must = true then (s.1 ++ [pairB l b], s.2) else (s.1, s.2 ++ [pairB l b])
theorem addB_fold (l : List T_face_Likeness) : ∀ (bs : List T_face_Bond) (s : List (Nat → Int) × List (Nat → Int)), bs.foldl (addB l) s = (s.1 ++ (bs.filter (·.Must)).map (pairB l), s.2 ++ (bs.filter (fun b => !b.Must)).map (pairB l))
  | [], s => by simp
  | b :: bs, s => by
    rw [List.foldl_cons, addB_fold l bs]
    unfold addB
    cases hb : b.Must <;> simp [hb]
theorem bondsOf_eq {l : List T_face_Likeness} (hg : Good l) {bs : List T_face_Bond} (hb : bs.length ≤ 1000) (h : ∀ b ∈ bs, l.any (has b.A) = true ∧ l.any (has b.B) = true) :
    face_bondsOf l bs = some ⟨(bs.filter (·.Must)).map (pairB l), (bs.filter (fun b => !b.Must)).map (pairB l)⟩ := by
  unfold face_bondsOf
  have := fix_list (F := fun next2 s => face_bondsOf_l2 l bs next2 s.1 s.2.1 s.2.2) bs (addB l) (fun s => face_bondsOf_j1 s.1 s.2) (fun k s => s.1.length + s.2.length = k) (fun next k s hk hI => by
    obtain ⟨h1, h2⟩ := h bs[k] (List.getElem_mem hk)
    have hgb := gAt_nat hk
    generalize bs[k] = b at h1 h2 hgb
    obtain ⟨p1, _⟩ := pos_at hg h1
    obtain ⟨p2, _⟩ := pos_at hg h2
    have hI : s.1.length + s.2.length = k := hI
    constructor
    · show face_bondsOf_l2 l bs next (k : Int) s.1 s.2 = _
      unfold face_bondsOf_l2 face_bondsOf_j3 addB
      rw [decide_eq_true (by omega), cnd_true, hgb, bnd_pure, p1, bnd_pure, p2, bnd_pure, gI_ok (by omega)]
      simp only [bnd_pure]
      cases hm : b.Must with
      | true => rw [cnd_true, gApp_ok (by simp only [List.length_singleton]; omega), bnd_pure, if_pos rfl]; rfl
      | false => rw [cnd_false, gApp_ok (by simp only [List.length_singleton]; omega), bnd_pure, if_neg (by simp)]; rfl
    · unfold addB
      split <;> simp <;> omega) (fun next s hI => by
    show face_bondsOf_l2 l bs next (bs.length : Int) s.1 s.2 = _
    unfold face_bondsOf_l2
    rw [decide_eq_false (by omega), cnd_false]) ([], []) rfl
  rw [addB_fold] at this
  exact this
theorem nots_loop {n : Nat} {b : T_face_bonds} {g : List (Int × List Int)} (h : Part n g) (hl : b.nots_.length ≤ 1000) (hno : ∀ m ∈ b.nots_, (0 ≤ m 0 ∧ m 0 < n) ∧ 0 ≤ m 1 ∧ m 1 < (n : Int)) :
    ∃ e, fix (fun next2 s => face_CheckBonds_l2 b g next2 s) 0 = some e ∧ (e = 0 → ∀ m ∈ b.nots_, ownG g (m 0) ≠ ownG g (m 1)) := by
  refine fix_run (F := fun next2 s => face_CheckBonds_l2 b g next2 s) (fun s => ∃ k : Nat, s = (k : Int) ∧ k ≤ b.nots_.length ∧ ∀ (j : Nat) (hj : j < b.nots_.length), j < k → ownG g (b.nots_[j] 0) ≠ ownG g (b.nots_[j] 1)) (fun s => b.nots_.length - s.toNat) (fun e => e = 0 → ∀ m ∈ b.nots_, ownG g (m 0) ≠ ownG g (m 1)) ?_ 0 ⟨0, rfl, Nat.zero_le _, fun j _ hj => by omega⟩
  rintro s ⟨k, rfl, hk, hI⟩
  by_cases hlt : k < b.nots_.length
  · obtain ⟨⟨h0, h1⟩, h2, h3⟩ := hno _ (List.getElem_mem hlt)
    have hgm := gAt_nat hlt
    by_cases e : ownG g (b.nots_[k] 0) = ownG g (b.nots_[k] 1)
    · refine .inl ⟨11, (fun h => absurd h (by decide)), fun next => ?_⟩
      show face_CheckBonds_l2 b g next (k : Int) = _
      unfold face_CheckBonds_l2
      rw [decide_eq_true (by omega), cnd_true, hgm, bnd_pure, h.of_eq h0 h1, bnd_pure, h.of_eq h2 h3, bnd_pure, decide_eq_true e, cnd_true]
    · refine .inr ⟨((k + 1 : Nat) : Int), ⟨k + 1, rfl, hlt, fun j hj hjk => ?_⟩, by show b.nots_.length - ((k + 1 : Nat) : Int).toNat < b.nots_.length - (k : Int).toNat; omega, fun next => ?_⟩
      · by_cases c : j = k
        · subst c; exact e
        · exact hI j hj (by omega)
      · show face_CheckBonds_l2 b g next (k : Int) = _
        unfold face_CheckBonds_l2
        rw [decide_eq_true (by omega), cnd_true, hgm, bnd_pure, h.of_eq h0 h1, bnd_pure, h.of_eq h2 h3, bnd_pure, decide_eq_false e, cnd_false, gI_ok (by omega), bnd_pure]
        rfl
  · refine .inl ⟨0, fun _ m hm => ?_, fun next => ?_⟩
    · obtain ⟨j, hj, rfl⟩ := List.mem_iff_getElem.1 hm
      exact hI j hj (by omega)
    · show face_CheckBonds_l2 b g next (k : Int) = _
      unfold face_CheckBonds_l2
      rw [decide_eq_false (by omega), cnd_false]
theorem pairB_in {l : List T_face_Likeness} (hg : Good l) {b : T_face_Bond} (h1 : l.any (has b.A) = true) (h2 : l.any (has b.B) = true) : (0 ≤ pairB l b 0 ∧ pairB l b 0 < (l.length : Int)) ∧ 0 ≤ pairB l b 1 ∧ pairB l b 1 < (l.length : Int) := by
  obtain ⟨_, a0, a1, _⟩ := pos_at hg h1
  obtain ⟨_, b0, b1, _⟩ := pos_at hg h2
  exact ⟨⟨a0, a1⟩, b0, b1⟩
def bondsB (l : List T_face_Likeness) (bs : List T_face_Bond) : T_face_bonds := ⟨(bs.filter (·.Must)).map (pairB l), (bs.filter (fun b => !b.Must)).map (pairB l)⟩
theorem bondsB_in {l : List T_face_Likeness} (hg : Good l) {bs : List T_face_Bond} (h : ∀ b ∈ bs, l.any (has b.A) = true ∧ l.any (has b.B) = true) :
    (∀ m ∈ (bondsB l bs).musts_, (0 ≤ m 0 ∧ m 0 < (l.length : Int)) ∧ 0 ≤ m 1 ∧ m 1 < (l.length : Int)) ∧ ∀ m ∈ (bondsB l bs).nots_, (0 ≤ m 0 ∧ m 0 < (l.length : Int)) ∧ 0 ≤ m 1 ∧ m 1 < (l.length : Int) := by
  refine ⟨fun m hm => ?_, fun m hm => ?_⟩
  all_goals
    obtain ⟨b, hb, rfl⟩ := List.mem_map.1 hm
    have hb := (List.mem_filter.1 hb).1
    exact pairB_in hg (h b hb).1 (h b hb).2
theorem j1_eq {l : List T_face_Likeness} (hg : Good l) {bs : List T_face_Bond} (hb : bs.length ≤ 1000) (h : ∀ b ∈ bs, l.any (has b.A) = true ∧ l.any (has b.B) = true) :
    ∃ e, face_CheckBonds_j1 l bs = some e ∧ (e = 0 → ∀ g, face_bonds_joined (bondsB l bs) (l.length : Int) = some g → ∀ m ∈ (bondsB l bs).nots_, ownG g (m 0) ≠ ownG g (m 1)) := by
  obtain ⟨hmu, hno⟩ := bondsB_in hg h
  have hn := hg.len
  obtain ⟨g, e1, p1, _, _⟩ := joined_eq (n := l.length) (by omega) (bondsB l bs).musts_ [] (face_each l.length) (part_each _) hmu (fun m hm => nomatch hm) (fun m hm => nomatch hm)
  have j1 : face_bonds_joined (bondsB l bs) (l.length : Int) = some g := by
    unfold face_bonds_joined
    rw [if_pos ⟨by omega, by omega⟩, Int.toNat_natCast, e1]
  have hnl : (bondsB l bs).nots_.length ≤ 1000 := by
    show ((bs.filter fun b => !b.Must).map (pairB l)).length ≤ 1000
    rw [List.length_map]
    exact Nat.le_trans (List.length_filter_le _ _) hb
  obtain ⟨e, h1, h2⟩ := nots_loop p1 hnl hno
  refine ⟨e, ?_, fun he g' hg' => ?_⟩
  · unfold face_CheckBonds_j1
    rw [bondsOf_eq hg hb h, bnd_pure]
    show bnd (face_bonds_joined (bondsB l bs) (l.length : Int)) _ = _
    rw [j1, bnd_pure]; exact h1
  · rw [j1] at hg'
    obtain rfl := Option.some.inj hg'
    exact h2 he
theorem at_any {l : List T_face_Likeness} (hg : Good l) (id : Int) : ∃ i, face_at l id = some (i, l.any (has id)) := by
  have := hg.len
  obtain ⟨i, b, h1, h2, _⟩ := at_eq l id hg.rise (by omega)
  exact ⟨i, by rw [h1, h2]⟩
theorem checkBonds_eq {l : List T_face_Likeness} (hg : Good l) (hc : face_Check l = some 0) (bs : List T_face_Bond) :
    ∃ e, face_CheckBonds l bs = some e ∧ (e = 0 → bs.length ≤ 1000 ∧ (∀ b ∈ bs, l.any (has b.A) = true ∧ l.any (has b.B) = true) ∧ ∀ g, face_bonds_joined (bondsB l bs) (l.length : Int) = some g → ∀ m ∈ (bondsB l bs).nots_, ownG g (m 0) ≠ ownG g (m 1)) := by
  unfold face_CheckBonds
  rw [hc, bnd_pure, decide_eq_false (by omega), cnd_false]
  by_cases hl : 1000 < (bs.length : Int)
  · exact ⟨4, by rw [decide_eq_true hl, cnd_true], fun h => absurd h (by decide)⟩
  rw [decide_eq_false hl, cnd_false]
  refine fix_run (F := fun next3 s => face_CheckBonds_l3 l bs next3 s) (fun s => ∃ k : Nat, s = (k : Int) ∧ k ≤ bs.length ∧ ∀ (j : Nat) (hj : j < bs.length), j < k → l.any (has bs[j].A) = true ∧ l.any (has bs[j].B) = true) (fun s => bs.length - s.toNat) _ ?_ 0 ⟨0, rfl, Nat.zero_le _, fun j _ hj => by omega⟩
  rintro s ⟨k, rfl, hk, hI⟩
  by_cases hlt : k < bs.length
  · have hgb := gAt_nat hlt
    obtain ⟨i1, a1⟩ := at_any hg bs[k].A
    obtain ⟨i2, a2⟩ := at_any hg bs[k].B
    have open_ : ∀ next, face_CheckBonds_l3 l bs next (k : Int) = cnd (!l.any (has bs[k].A)) (some 7) (cnd (!l.any (has bs[k].B)) (some 7) (cnd (decide (bs[k].B ≤ bs[k].A)) (some 1) (cnd (decide (0 < (k : Int))) (bnd (gI ((k : Int) - 1)) fun t66 => bnd (gAt bs t66) fun t67 => cnd (decide (bs[k].A < t67.A)) (some 5) (bnd (gI ((k : Int) - 1)) fun t76 => bnd (gAt bs t76) fun t77 => cnd (decide (bs[k].A = t77.A)) (bnd (gI ((k : Int) - 1)) fun t86 => bnd (gAt bs t86) fun t87 => cnd (decide (bs[k].B ≤ t87.B)) (some 5) (bnd (gI ((k : Int) + 1)) fun t94 => next t94)) (bnd (gI ((k : Int) + 1)) fun t94 => next t94))) (bnd (gI ((k : Int) + 1)) fun t94 => next t94)))) := fun next => by
      unfold face_CheckBonds_l3 face_CheckBonds_j4
      rw [decide_eq_true (by omega), cnd_true, hgb, bnd_pure, a1, bnd_pure, a2, bnd_pure]
    have bad : ∀ e : Int, e ≠ 0 → (∀ next, face_CheckBonds_l3 l bs next (k : Int) = some e) → (∃ r : Int, (r = 0 → bs.length ≤ 1000 ∧ (∀ b ∈ bs, l.any (has b.A) = true ∧ l.any (has b.B) = true) ∧ ∀ g, face_bonds_joined (bondsB l bs) (l.length : Int) = some g → ∀ m ∈ (bondsB l bs).nots_, ownG g (m 0) ≠ ownG g (m 1)) ∧ ∀ next, face_CheckBonds_l3 l bs next (k : Int) = some r) := fun e he h => ⟨e, fun h0 => absurd h0 he, h⟩
    cases h1 : l.any (has bs[k].A) with
    | false => exact .inl (bad 7 (by decide) fun next => by rw [open_, h1]; rfl)
    | true =>
    cases h2 : l.any (has bs[k].B) with
    | false => exact .inl (bad 7 (by decide) fun next => by rw [open_, h1, h2]; rfl)
    | true =>
    rw [h1, h2] at open_
    simp only [Bool.not_true, cnd_false, gI_ok (show -9223372036854775808 ≤ (k : Int) + 1 ∧ (k : Int) + 1 ≤ 9223372036854775807 by omega), bnd_pure] at open_
    have good : (∀ next, face_CheckBonds_l3 l bs next (k : Int) = next ((k : Int) + 1)) → ∃ b : Int, (∃ k : Nat, b = (k : Int) ∧ k ≤ bs.length ∧ ∀ (j : Nat) (hj : j < bs.length), j < k → l.any (has bs[j].A) = true ∧ l.any (has bs[j].B) = true) ∧ bs.length - b.toNat < bs.length - (k : Int).toNat ∧ ∀ next, face_CheckBonds_l3 l bs next (k : Int) = next b := fun h => ⟨(k : Int) + 1, ⟨k + 1, by omega, hlt, fun j hj hjk => by
      by_cases c : j = k
      · subst c; exact ⟨h1, h2⟩
      · exact hI j hj (by omega)⟩, by omega, h⟩
    by_cases c3 : bs[k].B ≤ bs[k].A
    · exact .inl (bad 1 (by decide) fun next => by rw [open_, decide_eq_true c3, cnd_true])
    by_cases c4 : 0 < (k : Int)
    · have hp : gAt bs ((k : Int) - 1) = some bs[k - 1] := by
        have := gAt_nat (xs := bs) (k := k - 1) (by omega)
        rwa [show ((k - 1 : Nat) : Int) = (k : Int) - 1 by omega] at this
      simp only [decide_eq_false c3, cnd_false, decide_eq_true c4, cnd_true, gI_ok (show -9223372036854775808 ≤ (k : Int) - 1 ∧ (k : Int) - 1 ≤ 9223372036854775807 by omega), bnd_pure, hp] at open_
      by_cases c5 : bs[k].A < bs[k - 1].A
      · exact .inl (bad 5 (by decide) fun next => by rw [open_, decide_eq_true c5, cnd_true])
      by_cases c6 : bs[k].A = bs[k - 1].A
      · by_cases c7 : bs[k].B ≤ bs[k - 1].B
        · exact .inl (bad 5 (by decide) fun next => by rw [open_, decide_eq_false c5, cnd_false, decide_eq_true c6, cnd_true, decide_eq_true c7, cnd_true])
        · exact .inr (good fun next => by rw [open_, decide_eq_false c5, cnd_false, decide_eq_true c6, cnd_true, decide_eq_false c7, cnd_false])
      · exact .inr (good fun next => by rw [open_, decide_eq_false c5, cnd_false, decide_eq_false c6, cnd_false])
    · exact .inr (good fun next => by rw [open_, decide_eq_false c3, cnd_false, decide_eq_false c4, cnd_false])
  · obtain ⟨e, h1, h2⟩ := j1_eq hg (bs := bs) (by omega) (fun b hb => by
      obtain ⟨j, hj, rfl⟩ := List.mem_iff_getElem.1 hb
      exact hI j hj (by omega))
    refine .inl ⟨e, fun he => ⟨by omega, fun b hb => ?_, h2 he⟩, fun next => ?_⟩
    · obtain ⟨j, hj, rfl⟩ := List.mem_iff_getElem.1 hb
      exact hI j hj (by omega)
    · show face_CheckBonds_l3 l bs next (k : Int) = _
      unfold face_CheckBonds_l3
      rw [decide_eq_false (by omega), cnd_false]; exact h1
end Go.M

namespace Go.M
open Go.Md Go.Pl
set_option linter.unusedVariables false

def distI (l : List T_face_Likeness) (i k : Nat) : Int := farV (l.getD i default).Vec (l.getD k default).Vec
structure Clus (l : List T_face_Likeness) (bs : List T_face_Bond) (limit : Int) (g : List (Int × List Int)) : Prop where
  good : Good l
  check : face_Check l = some 0
  lim : 0 ≤ limit ∧ limit ≤ 774192
  len : bs.length ≤ 1000
  ends : ∀ b ∈ bs, l.any (has b.A) = true ∧ l.any (has b.B) = true
  done : Done l.length (distI l) (bondsB l bs).musts_ (bondsB l bs).nots_ limit g
theorem getD_at {α : Type} [Inhabited α] {l : List α} {i : Nat} (h : i < l.length) : l.getD i default = l[i] := by
  simp [List.getD_eq_getElem?_getD, List.getElem?_eq_getElem h]
theorem dist_far {l : List T_face_Likeness} (hg : Good l) (i k : Nat) (hi : i < l.length) (hk : k < l.length) : face_far l[i].Vec l[k].Vec = some (distI l i k) := by
  rw [far_eq _ _ (hg.vec _ (List.getElem_mem hi)) (hg.vec _ (List.getElem_mem hk))]
  unfold distI
  rw [getD_at hi, getD_at hk]
theorem cluster_eq (l : List T_face_Likeness) (bs : List T_face_Bond) (limit : Int) (hl : l.length ≤ 9223372036854775807) :
    ∃ r, face_Cluster l bs limit = some r ∧ (r.2 = 0 → ∃ g, Clus l bs limit g ∧ r.1 = (keysS g).map (rowIds l g)) := by
  have hc := check_eq l hl
  generalize hv : (if 300 < l.length then (4 : Int) else firstE (likeF l) l.length 0) = c at hc
  unfold face_Cluster
  by_cases h0 : c = 0
  · subst h0
    have h3 : l.length ≤ 300 := by
      by_cases h : 300 < l.length
      · rw [if_pos h] at hv; omega
      · omega
    rw [if_neg (by omega)] at hv
    have hg := good_of l h3 hv
    obtain ⟨e, e1, e2⟩ := checkBonds_eq hg hc bs
    rw [e1, bnd_pure]
    by_cases he : e = 0
    · subst he
      obtain ⟨b1, b2, b3⟩ := e2 rfl
      rw [decide_eq_false (by omega), cnd_false, outside_eq, bnd_pure]
      by_cases hlim : limit < 0 ∨ 774192 < limit
      · rw [decide_eq_true hlim, cnd_true]
        exact ⟨_, rfl, fun h => absurd h (by decide)⟩
      · rw [decide_eq_false hlim, cnd_false, bondsOf_eq hg b1 b2, bnd_pure]
        obtain ⟨m1, m2⟩ := bondsB_in hg b2
        obtain ⟨g, d, e3⟩ := clustered_eq (b := bondsB l bs) (limit := limit) (D := distI l) rfl (by omega) (by omega) (fun i k => farV_symm _ _) (dist_far hg) m1 m2 b3
        have e4 := out_eq (l := l) rfl (by omega) d.part (keysS g) [] (fun k hk => keysS_mem.1 hk) (by
          have := d.part.len_le
          have e : (keysS g).length = g.length := by unfold keysS; rw [List.length_mergeSort, List.length_map]
          simp only [List.length_nil]; omega)
        rw [show (T_face_bonds.mk ((bs.filter (·.Must)).map (pairB l)) ((bs.filter (fun b => !b.Must)).map (pairB l))) = bondsB l bs from rfl, e3, e4, bnd_pure]
        exact ⟨_, rfl, fun _ => ⟨g, ⟨hg, hc, by omega, b1, b2, d⟩, rfl⟩⟩
    · rw [decide_eq_true he, cnd_true]
      exact ⟨_, rfl, fun h => absurd h he⟩
  · have : face_CheckBonds l bs = some c := by
      unfold face_CheckBonds
      rw [hc, bnd_pure, decide_eq_true h0, cnd_true]
    rw [this, bnd_pure, decide_eq_true h0, cnd_true]
    exact ⟨_, rfl, fun h => absurd h h0⟩
def idAt (l : List T_face_Likeness) (i : Int) : Int := (l.getD i.toNat default).Id
theorem idAt_lt {l : List T_face_Likeness} (hg : Good l) {i k : Int} (h0 : 0 ≤ i) (h : i < k) (hk : k < l.length) : idAt l i < idAt l k := by
  unfold idAt
  rw [getD_at (show i.toNat < l.length by omega), getD_at (show k.toNat < l.length by omega)]
  exact List.pairwise_iff_getElem.1 hg.rise _ _ _ _ (by omega)
theorem idAt_inj {l : List T_face_Likeness} (hg : Good l) {i k : Int} (hi : 0 ≤ i ∧ i < l.length) (hk : 0 ≤ k ∧ k < l.length) (h : idAt l i = idAt l k) : i = k := by
  rcases Int.lt_trichotomy i k with c | c | c
  · have := idAt_lt hg hi.1 c hk.2; omega
  · exact c
  · have := idAt_lt hg hk.1 c hi.2; omega
theorem idAt_any {l : List T_face_Likeness} {i : Int} (hi : 0 ≤ i ∧ i < l.length) : l.any (has (idAt l i)) = true := by
  rw [List.any_eq_true]
  refine ⟨l[i.toNat]'(by omega), List.getElem_mem _, ?_⟩
  unfold has idAt
  rw [getD_at (show i.toNat < l.length by omega)]
  exact decide_eq_true rfl
theorem idAt_pos {l : List T_face_Likeness} (hg : Good l) {id : Int} (h : l.any (has id) = true) : (0 ≤ posI l id ∧ posI l id < l.length) ∧ idAt l (posI l id) = id := by
  obtain ⟨_, h0, h1, h2, h3⟩ := pos_at hg h
  refine ⟨⟨h0, h1⟩, ?_⟩
  unfold idAt
  rw [getD_at h2]; exact h3
theorem at_idAt {l : List T_face_Likeness} (hg : Good l) {i : Int} (hi : 0 ≤ i ∧ i < l.length) : face_at l (idAt l i) = some (i, true) := by
  have ha := idAt_any hi
  obtain ⟨h1, _⟩ := pos_at hg ha
  obtain ⟨h2, h3⟩ := idAt_pos hg ha
  rw [h1, idAt_inj hg h2 hi h3]
def rowAt (g : List (Int × List Int)) (k : Int) : List Int := (mGet g k).getD []
theorem rowIds_eq (l : List T_face_Likeness) (g : List (Int × List Int)) (k : Int) : rowIds l g k = (rowAt g k).map (idAt l) := rfl
section
variable {n : Nat} {g : List (Int × List Int)}
theorem Part.row_of (h : Part n g) {k : Int} (hk : k ∈ keysS g) : ∃ p ∈ g, p.1 = k ∧ rowAt g k = p.2 := by
  obtain ⟨p, hp, rfl⟩ := List.mem_map.1 (keysS_mem.1 hk)
  exact ⟨p, hp, rfl, by unfold rowAt; rw [h.get hp]; rfl⟩
theorem Part.own_key (h : Part n g) {i : Int} (hi : 0 ≤ i ∧ i < n) : ownG g i ∈ keysS g := by
  obtain ⟨p, hp, _, e⟩ := h.own_mem hi.1 hi.2
  rw [e]; exact keysS_mem.2 (List.mem_map.2 ⟨p, hp, rfl⟩)
theorem Part.mem_row (h : Part n g) {k : Int} (hk : k ∈ keysS g) {i : Int} : i ∈ rowAt g k ↔ (0 ≤ i ∧ i < n) ∧ ownG g i = k := by
  obtain ⟨p, hp, rfl, e⟩ := h.row_of hk
  rw [e]
  constructor
  · intro hi; exact ⟨h.inn p hp i hi, h.own hp hi⟩
  · rintro ⟨h0, e2⟩
    obtain ⟨q, hq, hi, e3⟩ := h.own_mem h0.1 h0.2
    rw [← h.by_key hq hp (by omega)]; exact hi
theorem Part.row_rise (h : Part n g) {k : Int} (hk : k ∈ keysS g) : (rowAt g k).Pairwise fun x y => x < y := by
  obtain ⟨p, hp, rfl, e⟩ := h.row_of hk
  rw [e]; exact h.rise p hp
theorem Part.row_head (h : Part n g) {k : Int} (hk : k ∈ keysS g) : ∃ t, rowAt g k = k :: t := by
  obtain ⟨p, hp, rfl, e⟩ := h.row_of hk
  have := h.head p hp
  rw [e]
  cases hl : p.2 with
  | nil => rw [hl] at this; cases this
  | cons x t => rw [hl] at this; simp at this; exact ⟨t, by rw [this]⟩
def ixG (g : List (Int × List Int)) (i : Int) : Nat := (keysS g).idxOf (ownG g i)
theorem Part.ix_at (h : Part n g) {i : Int} (hi : 0 ≤ i ∧ i < n) : ∃ hk : ixG g i < (keysS g).length, (keysS g)[ixG g i] = ownG g i := by
  have := List.idxOf_lt_length_of_mem (h.own_key hi)
  exact ⟨this, List.getElem_idxOf this⟩
theorem Part.ix_eq (h : Part n g) {i k : Int} (hi : 0 ≤ i ∧ i < n) (hk : 0 ≤ k ∧ k < n) : ixG g i = ixG g k ↔ ownG g i = ownG g k := by
  constructor
  · intro e
    obtain ⟨h1, e1⟩ := h.ix_at hi
    obtain ⟨h2, e2⟩ := h.ix_at hk
    rw [← e1, ← e2]; simp only [e]
  · intro e; unfold ixG; rw [e]
theorem Part.ix_of (h : Part n g) {i : Int} {j : Nat} (hj : j < (keysS g).length) (e : ownG g i = (keysS g)[j]) : ixG g i = j := by
  unfold ixG
  rw [e]
  have hn : (keysS g).Nodup := (keysS_lt h).imp fun {a b} (x : a < b) => by omega
  exact List.Nodup.idxOf_getElem hn j hj
theorem Part.flat_nodup (h : Part n g) : ((keysS g).map (rowAt g)).flatten.Nodup := by
  refine List.pairwise_flatten.2 ⟨fun r hr => ?_, List.pairwise_map.2 ((keysS_lt h).imp_of_mem fun {a b} ha hb hab x hx y hy => ?_)⟩
  · obtain ⟨k, hk, rfl⟩ := List.mem_map.1 hr
    exact (h.row_rise hk).imp fun {a b} (x : a < b) => by omega
  · rintro rfl
    have h1 := ((h.mem_row ha).1 hx).2
    have h2 := ((h.mem_row hb).1 hy).2
    omega
theorem Part.flat_mem (h : Part n g) {i : Int} : i ∈ ((keysS g).map (rowAt g)).flatten ↔ 0 ≤ i ∧ i < n := by
  rw [List.mem_flatten]
  constructor
  · rintro ⟨r, hr, hi⟩
    obtain ⟨k, hk, rfl⟩ := List.mem_map.1 hr
    exact ((h.mem_row hk).1 hi).1
  · intro hi
    exact ⟨_, List.mem_map.2 ⟨_, h.own_key hi, rfl⟩, (h.mem_row (h.own_key hi)).2 ⟨hi, rfl⟩⟩
theorem Part.flat_len (h : Part n g) : ((keysS g).map (rowAt g)).flatten.length = n := by
  have hp : ((keysS g).map (rowAt g)).flatten.Perm ((List.range n).map Int.ofNat) := List.perm_iff_count.2 fun a => by
    have hn : ((List.range n).map Int.ofNat).Nodup := List.pairwise_map.2 (List.nodup_range.imp fun {a b} (x : a ≠ b) => by
      show Int.ofNat a ≠ Int.ofNat b
      intro e; exact x (Int.ofNat.inj e))
    rw [h.flat_nodup.count, hn.count]
    have : a ∈ (List.range n).map Int.ofNat ↔ 0 ≤ a ∧ a < n := by
      rw [List.mem_map]
      constructor
      · rintro ⟨k, hk, rfl⟩
        have := List.mem_range.1 hk
        show (0 : Int) ≤ (k : Int) ∧ (k : Int) < n
        omega
      · intro ha
        exact ⟨a.toNat, List.mem_range.2 (by omega), by show ((a.toNat : Nat) : Int) = a; omega⟩
    simp only [h.flat_mem, this]
  rw [hp.length_eq, List.length_map, List.length_range]
end
theorem ids_flat (l : List T_face_Likeness) (g : List (Int × List Int)) : ((keysS g).map (rowIds l g)).flatten = (((keysS g).map (rowAt g)).flatten).map (idAt l) := by
  rw [List.map_flatten, List.map_map]; rfl
theorem nodup_map {α β : Type} {f : α → β} : ∀ {l : List α}, l.Nodup → (∀ a ∈ l, ∀ b ∈ l, f a = f b → a = b) → (l.map f).Nodup
  | l, h, hf => List.pairwise_map.2 (h.imp_of_mem fun {a b} ha hb hab e => hab (hf a ha b hb e))
theorem ids_nodup {l : List T_face_Likeness} {g : List (Int × List Int)} (hg : Good l) (h : Part l.length g) : ((keysS g).map (rowIds l g)).flatten.Nodup := by
  rw [ids_flat]
  exact nodup_map h.flat_nodup fun a ha b hb e => idAt_inj hg (h.flat_mem.1 ha) (h.flat_mem.1 hb) e
theorem ids_len {l : List T_face_Likeness} {g : List (Int × List Int)} (h : Part l.length g) : ((keysS g).map (rowIds l g)).flatten.length = l.length := by
  rw [ids_flat, List.length_map, h.flat_len]
theorem ids_rise {l : List T_face_Likeness} {g : List (Int × List Int)} (hg : Good l) (h : Part l.length g) {k : Int} (hk : k ∈ keysS g) : (rowIds l g k).Pairwise fun x y => x < y := by
  rw [rowIds_eq, List.pairwise_map]
  exact (h.row_rise hk).imp_of_mem fun {a b} ha hb hab => idAt_lt hg ((h.mem_row hk).1 ha).1.1 hab ((h.mem_row hk).1 hb).1.2
end Go.M

namespace Go.M
open Go.Md Go.Pl
set_option linter.unusedVariables false

section
variable {κ ν : Type} [DecidableEq κ]
theorem mHas_iff {xs : List (κ × ν)} {k : κ} : mHas xs k = true ↔ k ∈ xs.map (·.1) := by
  unfold mHas
  rw [List.any_eq_true, List.mem_map]
  exact ⟨fun ⟨p, hp, h⟩ => ⟨p, hp, of_decide_eq_true h⟩, fun ⟨p, hp, h⟩ => ⟨p, hp, decide_eq_true h⟩⟩
theorem mGet_cons (p : κ × ν) (xs : List (κ × ν)) (k : κ) : mGet (p :: xs) k = if p.1 = k then some p.2 else mGet xs k := by
  unfold mGet
  rw [List.find?_cons]
  by_cases h : p.1 = k
  · rw [if_pos h]; simp [h]
  · rw [if_neg h]; simp [h]
theorem mGet_mem : ∀ {xs : List (κ × ν)} {k : κ} {v : ν}, (xs.map (·.1)).Nodup → (k, v) ∈ xs → mGet xs k = some v
  | [], _, _, _, h => nomatch h
  | p :: xs, k, v, hn, h => by
    rw [mGet_cons]
    obtain ⟨h1, h2⟩ := List.nodup_cons.1 hn
    rcases List.mem_cons.1 h with rfl | h
    · rw [if_pos rfl]
    · rw [if_neg, mGet_mem h2 h]
      rintro rfl
      exact h1 (List.mem_map.2 ⟨_, h, rfl⟩)
theorem mGet_map (xs : List (κ × ν)) (k k' : κ) (v : ν) : mGet (xs.map fun p => if p.1 = k then (k, v) else p) k' = if k = k' ∧ k ∈ xs.map (·.1) then some v else mGet xs k' := by
  induction xs with
  | nil => simp [mGet]
  | cons p xs ih =>
    rw [List.map_cons, mGet_cons, ih, mGet_cons]
    by_cases h1 : p.1 = k
    · subst h1
      by_cases h2 : p.1 = k' <;> simp [h2]
    · rw [if_neg h1]
      by_cases h2 : p.1 = k'
      · subst h2
        rw [if_pos rfl, if_pos rfl, if_neg]
        exact fun h => h1 h.1.symm
      · rw [if_neg h2, if_neg h2]
        have : k ∈ (p :: xs).map (·.1) ↔ k ∈ xs.map (·.1) := by
          simp only [List.map_cons, List.mem_cons]
          exact ⟨fun h => h.resolve_left fun e => h1 e.symm, .inr⟩
        simp only [this]
theorem mGet_app (xs : List (κ × ν)) (k k' : κ) (v : ν) : mGet (xs ++ [(k, v)]) k' = (mGet xs k').or (if k = k' then some v else none) := by
  induction xs with
  | nil => rw [List.nil_append, mGet_cons]; simp [mGet]
  | cons p xs ih =>
    rw [List.cons_append, mGet_cons, mGet_cons, ih]
    by_cases h : p.1 = k' <;> simp [h]
theorem mGet_none {xs : List (κ × ν)} {k : κ} (h : k ∉ xs.map (·.1)) : mGet xs k = none := by
  induction xs with
  | nil => rfl
  | cons p xs ih =>
    rw [mGet_cons, if_neg fun e => h (by simp [e]), ih fun e => h (by simp only [List.map_cons, List.mem_cons]; exact .inr e)]
theorem mGet_mSet (xs : List (κ × ν)) (k k' : κ) (v : ν) : mGet (mSet xs k v) k' = if k = k' then some v else mGet xs k' := by
  unfold mSet
  by_cases h : mHas xs k = true
  · rw [if_pos h, mGet_map]
    simp only [mHas_iff.1 h, and_true]
  · rw [if_neg h, mGet_app]
    by_cases e : k = k'
    · subst e
      rw [if_pos rfl, if_pos rfl, mGet_none fun hh => h (mHas_iff.2 hh)]
      rfl
    · rw [if_neg e, if_neg e]; simp
theorem mSet_new {xs : List (κ × ν)} {k : κ} {v : ν} (h : k ∉ xs.map (·.1)) : mSet xs k v = xs ++ [(k, v)] := by
  unfold mSet
  rw [if_neg fun hh => h (mHas_iff.1 hh)]
end
theorem less_eq (a b : Int) : cmp_Less_int a b = some (decide (a < b)) := by
  unfold cmp_Less_int cmp_isNaN_int
  simp only [bnd_pure, ne_eq, not_true_eq_false, decide_false, cnd_false]
theorem isSorted_eq {r : List Int} (h : r.Pairwise fun x y => x < y) (hl : r.length ≤ 1000000) (h0 : 0 < r.length) : slices_IsSorted_int r = some true := by
  unfold slices_IsSorted_int
  rw [gI_ok (by omega), bnd_pure]
  obtain ⟨v, e, h1⟩ := fix_run (F := fun next1 s => slices_IsSorted_int_l1 r next1 s) (fun s => ∃ k : Nat, s = (k : Int) ∧ k < r.length) Int.toNat (fun v => v = true) (fun s => by
    rintro ⟨k, rfl, hk⟩
    match k, hk with
    | 0, hk =>
      refine .inl ⟨true, rfl, fun next => ?_⟩
      show slices_IsSorted_int_l1 r next 0 = _
      unfold slices_IsSorted_int_l1
      rw [decide_eq_false (by omega), cnd_false]
    | k + 1, hk =>
      refine .inr ⟨(k : Int), ⟨k, rfl, by omega⟩, by omega, fun next => ?_⟩
      show slices_IsSorted_int_l1 r next ((k + 1 : Nat) : Int) = _
      unfold slices_IsSorted_int_l1
      have e : ((k + 1 : Nat) : Int) - 1 = (k : Int) := by omega
      have hlt := List.pairwise_iff_getElem.1 h k (k + 1) (by omega) hk (by omega)
      rw [decide_eq_true (by omega), cnd_true, gAt_nat hk, bnd_pure, e, gI_ok (by omega), bnd_pure, gAt_nat (show k < r.length by omega), bnd_pure, less_eq, bnd_pure, decide_eq_false (by omega), cnd_false, bnd_pure]) ((r.length : Int) - 1) ⟨r.length - 1, by omega, by omega⟩
  rw [e, h1]
def ofR : Nat → List (List Int) → List (Int × Int)
  | _, [] => []
  | j, r :: rs => r.map (fun id => (id, (j : Int))) ++ ofR (j + 1) rs
theorem ofR_keys : ∀ (R : List (List Int)) (j : Nat), (ofR j R).map (·.1) = R.flatten
  | [], _ => rfl
  | r :: R, j => by
    unfold ofR
    rw [List.map_append, ofR_keys R, List.map_map, List.flatten_cons]
    congr 1
    exact List.map_id' r
theorem ofR_snoc (r : List Int) : ∀ (A : List (List Int)) (j : Nat), ofR j (A ++ [r]) = ofR j A ++ r.map (fun id => (id, ((j + A.length : Nat) : Int)))
  | [], j => by simp [ofR]
  | a :: A, j => by
    rw [List.cons_append]
    unfold ofR
    rw [ofR_snoc r A, List.append_assoc, List.length_cons, show j + 1 + A.length = j + (A.length + 1) by omega]
theorem ofR_mem : ∀ {R : List (List Int)} {j k : Nat} {id : Int} (hk : k < R.length), id ∈ R[k] → (id, ((j + k : Nat) : Int)) ∈ ofR j R
  | [], _, _, _, hk, _ => nomatch hk
  | r :: R, j, 0, id, hk, h => by
    unfold ofR
    exact List.mem_append_left _ (List.mem_map.2 ⟨id, h, rfl⟩)
  | r :: R, j, k + 1, id, hk, h => by
    unfold ofR
    have := ofR_mem (R := R) (j := j + 1) (k := k) (by simpa using hk) (by simpa using h)
    rw [show j + 1 + k = j + (k + 1) by omega] at this
    exact List.mem_append_right _ this
theorem inner_eq {R : List (List Int)} (hn : R.flatten.Nodup) {k : Nat} (hk : k < R.length) (hsz : R[k].length ≤ 1000000) (hR : R.length ≤ 1000000) (next9 : (Int × List (Int × Int)) → Option Bool) (b1 b2 b3 b4 : Bool) :
    fix (fun next12 s => Keep_FaceClusters_l12 (k : Int) next9 R[k] b1 b2 b3 b4 next12 s.1 s.2) (0, ofR 0 (R.take k)) = next9 ((k : Int) + 1, ofR 0 (R.take (k + 1))) := by
  have e : R.flatten = (R.take k).flatten ++ (R[k] ++ (R.drop (k + 1)).flatten) := by
    have e0 : R = R.take k ++ R[k] :: R.drop (k + 1) := by rw [← List.drop_eq_getElem_cons hk, List.take_append_drop]
    have := congrArg List.flatten e0
    rw [List.flatten_append, List.flatten_cons] at this
    exact this
  rw [e] at hn
  obtain ⟨_, n2, n3⟩ := List.nodup_append.1 hn
  obtain ⟨n4, _, _⟩ := List.nodup_append.1 n2
  rw [fix_list (F := fun next12 s => Keep_FaceClusters_l12 (k : Int) next9 R[k] b1 b2 b3 b4 next12 s.1 s.2) R[k] (fun s id => s ++ [(id, (k : Int))]) (fun s => Keep_FaceClusters_j10 (k : Int) next9 R[k] b1 b2 b3 b4 s) (fun j s => s = ofR 0 (R.take k) ++ (R[k].take j).map fun id => (id, (k : Int))) (fun next j s hj hI => by
      subst hI
      refine ⟨?_, by rw [List.take_succ_eq_append_getElem hj, List.map_append, List.append_assoc]; rfl⟩
      show Keep_FaceClusters_l12 (k : Int) next9 R[k] b1 b2 b3 b4 next (j : Int) _ = _
      unfold Keep_FaceClusters_l12
      have hf : R[k][j] ∉ (ofR 0 (R.take k) ++ (R[k].take j).map fun id => (id, (k : Int))).map (·.1) := by
        rw [List.map_append, ofR_keys, List.map_map, List.mem_append]
        rintro (h | h)
        · exact n3 _ h _ (List.mem_append_left _ (List.getElem_mem hj)) rfl
        · obtain ⟨x, hx, hxe⟩ := List.mem_map.1 h
          have hxe : x = R[k][j] := hxe
          subst hxe
          obtain ⟨i, hi, hie⟩ := List.mem_iff_getElem.1 hx
          rw [List.getElem_take] at hie
          have hi : i < j := by simp at hi; omega
          exact absurd hie (List.pairwise_iff_getElem.1 n4 i j (by omega) hj hi)
      rw [decide_eq_true (by omega), cnd_true, gAt_nat hj, bnd_pure, Bool.eq_false_iff.2 fun h => hf (mHas_iff.1 h), cnd_false, gI_ok (by omega), bnd_pure, mSet_new hf]) (fun next s hI => by
      show Keep_FaceClusters_l12 (k : Int) next9 R[k] b1 b2 b3 b4 next (R[k].length : Int) s = _
      unfold Keep_FaceClusters_l12
      rw [decide_eq_false (by omega), cnd_false]) (ofR 0 (R.take k)) (by simp), foldl_app]
  unfold Keep_FaceClusters_j10
  rw [gI_ok (by omega), bnd_pure, List.take_succ_eq_append_getElem hk, ofR_snoc, List.length_take, Nat.min_eq_left (by omega), Nat.zero_add]
theorem gap_eq {l : List T_face_Likeness} (hg : Good l) (hc : face_Check l = some 0) {A B : List Int} (hA : ∀ i ∈ A, 0 ≤ i ∧ i < l.length) (hB : ∀ i ∈ B, 0 ≤ i ∧ i < l.length) (hAl : A.length ≤ 1000000) (hBl : B.length ≤ 1000000) (hA0 : 0 < A.length) (hB0 : 0 < B.length) :
    ∃ r, face_Gap l (A.map (idAt l)) (B.map (idAt l)) = some r ∧ r.2 = 0 ∧ (r.1 = 774192 ∨ ∃ a ∈ A, ∃ b ∈ B, r.1 = distI l a.toNat b.toNat) := by
  have hn := hg.len
  unfold face_Gap
  rw [hc, bnd_pure, decide_eq_false (by omega), cnd_false, concat_eq _ _ (by simp only [List.length_map]; omega), bnd_pure, ← List.map_append]
  have hAB : ∀ i ∈ A ++ B, 0 ≤ i ∧ i < l.length := fun i hi => (List.mem_append.1 hi).elim (hA i) (hB i)
  have hABl : (A ++ B).length ≤ 2000000 := by rw [List.length_append]; omega
  generalize A ++ B = AB at hAB hABl
  have first : fix (fun next5 s => face_Gap_l5 l (A.map (idAt l)) (B.map (idAt l)) (AB.map (idAt l)) next5 s) 0 = face_Gap_j1 l (A.map (idAt l)) (B.map (idAt l)) := by
    refine fix_upto (F := fun next5 s => face_Gap_l5 l (A.map (idAt l)) (B.map (idAt l)) (AB.map (idAt l)) next5 s) 0 AB.length (Nat.zero_le _) (fun next k _ hk => ?_) fun next => ?_
    · show face_Gap_l5 l _ _ _ next (k : Int) = _
      unfold face_Gap_l5
      have hk' : k < (AB.map (idAt l)).length := by rw [List.length_map]; exact hk
      rw [decide_eq_true (by omega), cnd_true, gAt_nat hk', bnd_pure, List.getElem_map, at_idAt hg (hAB _ (List.getElem_mem hk)), bnd_pure]
      show cnd false _ _ = _
      rw [cnd_false, gI_ok (by omega), bnd_pure]
    · show face_Gap_l5 l _ _ _ next (AB.length : Int) = _
      unfold face_Gap_l5
      rw [decide_eq_false (by rw [List.length_map]; omega), cnd_false]
  rw [first]
  unfold face_Gap_j1
  rw [decide_eq_false (by rw [List.length_map]; omega), cnd_false, decide_eq_false (by rw [List.length_map]; omega), cnd_false]
  let Q : Int → Prop := fun v => v = 774192 ∨ ∃ a ∈ A, ∃ b ∈ B, v = distI l a.toNat b.toNat
  obtain ⟨r, h1, h2⟩ := fix_run (F := fun next2 s => face_Gap_l2 l (A.map (idAt l)) (B.map (idAt l)) next2 s.1 s.2) (fun s => Q s.1 ∧ ∃ k : Nat, s.2 = (k : Int) ∧ k ≤ A.length) (fun s => A.length - s.2.toNat) (fun r => r.2 = 0 ∧ Q r.1) (fun s => by
    obtain ⟨v, x⟩ := s
    rintro ⟨hv, k, hx, hk⟩
    have hx : x = (k : Int) := hx
    subst hx
    by_cases hlt : k < A.length
    · have ha := hA _ (List.getElem_mem hlt)
      obtain ⟨v', hv', hin⟩ := fix_runP (F := fun (p : (Int × Int) → Option (Int × Int)) next4 s => face_Gap_l4 l (B.map (idAt l)) (k : Int) p (idAt l A[k]) next4 s.1 s.2) (fun p v => face_Gap_j3 (k : Int) p v) (fun s => Q s.1 ∧ ∃ j : Nat, s.2 = (j : Int) ∧ j ≤ B.length) (fun s => B.length - s.2.toNat) Q (fun s => by
        obtain ⟨v, x⟩ := s
        rintro ⟨hv, j, hx, hj⟩
        have hx : x = (j : Int) := hx
        subst hx
        by_cases hjl : j < B.length
        · have hb := hB _ (List.getElem_mem hjl)
          refine .inr ⟨(min v (distI l A[k].toNat B[j].toNat), (j : Int) + 1), ⟨?_, j + 1, by simp, hjl⟩, by show B.length - ((j : Int) + 1).toNat < B.length - (j : Int).toNat; omega, fun p next => ?_⟩
          · show Q (min v (distI l A[k].toNat B[j].toNat))
            rcases Int.le_total v (distI l A[k].toNat B[j].toNat) with h | h
            · rw [Int.min_eq_left h]; exact hv
            · rw [Int.min_eq_right h]; exact .inr ⟨_, List.getElem_mem hlt, _, List.getElem_mem hjl, rfl⟩
          · show face_Gap_l4 l (B.map (idAt l)) (k : Int) p (idAt l A[k]) next v (j : Int) = _
            unfold face_Gap_l4
            have hj' : j < (B.map (idAt l)).length := by rw [List.length_map]; exact hjl
            rw [decide_eq_true (by omega), cnd_true, gAt_nat hj', bnd_pure, List.getElem_map, at_idAt hg ha, bnd_pure, at_idAt hg hb, bnd_pure]
            show bnd (gAt l A[k]) _ = _
            rw [gAt_ok ha.1 (by omega), bnd_pure]
            show bnd (gAt l B[j]) _ = _
            rw [gAt_ok hb.1 (by omega), bnd_pure, dist_far hg _ _ (by omega) (by omega), bnd_pure, gI_ok (by omega), bnd_pure]
        · refine .inl ⟨v, hv, fun p next => ?_⟩
          show face_Gap_l4 l (B.map (idAt l)) (k : Int) p (idAt l A[k]) next v (j : Int) = _
          unfold face_Gap_l4
          rw [decide_eq_false (by rw [List.length_map]; omega), cnd_false]) (v, 0) ⟨hv, 0, rfl, Nat.zero_le _⟩
      refine .inr ⟨(v', (k : Int) + 1), ⟨hv', k + 1, by simp, hlt⟩, by show A.length - ((k : Int) + 1).toNat < A.length - (k : Int).toNat; omega, fun next => ?_⟩
      show face_Gap_l2 l _ _ next v (k : Int) = _
      unfold face_Gap_l2
      have hk' : k < (A.map (idAt l)).length := by rw [List.length_map]; exact hlt
      rw [decide_eq_true (by omega), cnd_true, gAt_nat hk', bnd_pure, List.getElem_map, hin next]
      unfold face_Gap_j3
      rw [gI_ok (by omega), bnd_pure]
    · refine .inl ⟨(v, 0), ⟨rfl, hv⟩, fun next => ?_⟩
      show face_Gap_l2 l _ _ next v (k : Int) = _
      unfold face_Gap_l2
      rw [decide_eq_false (by rw [List.length_map]; omega), cnd_false]) (774192, 0) ⟨.inl rfl, 0, rfl, Nat.zero_le _⟩
  exact ⟨r, h1, h2⟩
end Go.M

namespace Go.M
open Go.Md Go.Pl
set_option linter.unusedVariables false

section
variable {l : List T_face_Likeness} {bs : List T_face_Bond} {limit : Int} {g : List (Int × List Int)}
def rowsL (l : List T_face_Likeness) (g : List (Int × List Int)) : List (List Int) := (keysS g).map (rowIds l g)
theorem rows_len : (rowsL l g).length = (keysS g).length := List.length_map ..
theorem rows_at {k : Nat} (hk : k < (rowsL l g).length) : (rowsL l g)[k] = rowIds l g ((keysS g)[k]'(by rw [← rows_len (l := l)]; exact hk)) := by
  exact List.getElem_map (rowIds l g)
theorem Clus.small (C : Clus l bs limit g) : l.length ≤ 300 ∧ (rowsL l g).length ≤ 300 := by
  have h1 := C.good.len
  have h2 := C.done.part.len_le
  rw [rows_len]
  have e : (keysS g).length = g.length := by unfold keysS; rw [List.length_mergeSort, List.length_map]
  omega
theorem Clus.row_small (C : Clus l bs limit g) {k : Int} (hk : k ∈ keysS g) : (rowIds l g k).length ≤ 300 ∧ 0 < (rowIds l g k).length := by
  obtain ⟨p, hp, rfl, e⟩ := C.done.part.row_of hk
  have h1 := C.done.part.row_len hp
  have h2 := C.good.len
  obtain ⟨t, h3⟩ := C.done.part.row_head hk
  rw [rowIds_eq, List.length_map]
  refine ⟨by rw [e]; omega, by rw [h3]; simp⟩
theorem Clus.of_eq (C : Clus l bs limit g) {id : Int} (h : l.any (has id) = true) : (mGet (ofR 0 (rowsL l g)) id).getD 0 = (ixG g (posI l id) : Int) := by
  obtain ⟨h1, h2⟩ := idAt_pos C.good h
  obtain ⟨hk, e⟩ := C.done.part.ix_at h1
  have hk' : ixG g (posI l id) < (rowsL l g).length := by rw [rows_len]; exact hk
  have hm : id ∈ (rowsL l g)[ixG g (posI l id)] := by
    rw [rows_at, e, rowIds_eq]
    exact List.mem_map.2 ⟨posI l id, (C.done.part.mem_row (C.done.part.own_key h1)).2 ⟨h1, rfl⟩, h2⟩
  rw [mGet_mem (by rw [ofR_keys]; exact ids_nodup C.good C.done.part) (ofR_mem (j := 0) hk' hm), Nat.zero_add]
  rfl
theorem Clus.bond (C : Clus l bs limit g) {b : T_face_Bond} (hb : b ∈ bs) : b.Must = decide (ixG g (posI l b.A) = ixG g (posI l b.B)) := by
  obtain ⟨h1, h2⟩ := C.ends b hb
  have p1 := (idAt_pos C.good h1).1
  have p2 := (idAt_pos C.good h2).1
  rw [decide_eq_decide.2 (C.done.part.ix_eq p1 p2)]
  cases hm : b.Must with
  | true => exact (decide_eq_true (C.done.must (pairB l b) (List.mem_map.2 ⟨b, List.mem_filter.2 ⟨hb, hm⟩, rfl⟩))).symm
  | false => exact (decide_eq_false (C.done.not (pairB l b) (List.mem_map.2 ⟨b, List.mem_filter.2 ⟨hb, by simp [hm]⟩, rfl⟩))).symm
def pairG (l : List T_face_Likeness) (g : List (Int × List Int)) (b : T_face_Bond) : Int × Int := (min (ixG g (posI l b.A) : Int) (ixG g (posI l b.B) : Int), max (ixG g (posI l b.A) : Int) (ixG g (posI l b.B) : Int))
theorem Clus.last (C : Clus l bs limit g) {mp : List ((Int × Int) × Bool)} (hmp : ∀ b ∈ bs, b.Must = false → (mGet mp (pairG l g b)).getD false = true) (x : Int) (r : List (List Int) × Int) (hr : r.1 = rowsL l g) : Keep_FaceClusters_j2 l limit r mp = some true := by
  unfold Keep_FaceClusters_j2
  obtain ⟨hs1, hs2⟩ := C.small
  have hP := C.done.part
  obtain ⟨v, e, h1⟩ := fix_run (F := fun next3 s => Keep_FaceClusters_l3 l limit r mp next3 s) (fun s => ∃ k : Nat, s = (k : Int) ∧ k ≤ (rowsL l g).length) (fun s => (rowsL l g).length - s.toNat) (fun v => v = true) (fun s => by
    rintro ⟨i, rfl, hi⟩
    by_cases hlt : i < (rowsL l g).length
    · refine .inr ⟨(i : Int) + 1, ⟨i + 1, by simp, hlt⟩, by omega, fun next => ?_⟩
      show Keep_FaceClusters_l3 l limit r mp next (i : Int) = _
      unfold Keep_FaceClusters_l3
      rw [hr, decide_eq_true (by omega), cnd_true]
      refine fix_upto (F := fun next5 s => Keep_FaceClusters_l5 l limit r mp (i : Int) next next5 s) 0 i (Nat.zero_le _) (fun next5 k _ hk => ?_) fun next5 => ?_
      · show Keep_FaceClusters_l5 l limit r mp (i : Int) next next5 (k : Int) = _
        unfold Keep_FaceClusters_l5
        have hk' : k < (rowsL l g).length := by omega
        have hkk : k < (keysS g).length := by rw [← rows_len (l := l)]; exact hk'
        have hik : i < (keysS g).length := by rw [← rows_len (l := l)]; exact hlt
        have mk : (keysS g)[k] ∈ keysS g := List.getElem_mem hkk
        have mi : (keysS g)[i] ∈ keysS g := List.getElem_mem hik
        obtain ⟨pk, hpk, epk, ek⟩ := hP.row_of mk
        obtain ⟨pi, hpi, epi, ei⟩ := hP.row_of mi
        have k1 := C.row_small mk
        have i1 := C.row_small mi
        rw [rowIds_eq, List.length_map] at k1 i1
        rw [decide_eq_true (by omega), cnd_true, hr, gAt_nat hk', bnd_pure, gAt_nat hlt, bnd_pure, rows_at hk', rows_at hlt, rowIds_eq, rowIds_eq]
        obtain ⟨q, q1, q2, q3⟩ := gap_eq C.good C.check (A := rowAt g (keysS g)[k]) (B := rowAt g (keysS g)[i]) (fun j hj => ((hP.mem_row mk).1 hj).1) (fun j hj => ((hP.mem_row mi).1 hj).1) (by omega) (by omega) k1.2 i1.2
        rw [q1, bnd_pure, q2, decide_eq_false (by omega), cnd_false]
        have fin : ∀ b1 b2 b3, Keep_FaceClusters_j6 (k : Int) next5 q.1 b1 b2 b3 = next5 ((k : Int) + 1) := fun b1 b2 b3 => by
          unfold Keep_FaceClusters_j6
          rw [gI_ok (by omega), bnd_pure]
        by_cases hle : q.1 ≤ limit
        · have hlk := List.pairwise_iff_getElem.1 (keysS_lt hP) k i hkk hik hk
          have hnear : ∃ a ∈ rowAt g (keysS g)[k], ∃ b ∈ rowAt g (keysS g)[i], distI l a.toNat b.toNat ≤ limit := by
            rcases q3 with h | ⟨a, ha, b, hb, h⟩
            · obtain ⟨ta, ha⟩ := hP.row_head mk
              obtain ⟨tb, hb⟩ := hP.row_head mi
              have ma : (keysS g)[k] ∈ rowAt g (keysS g)[k] := by rw [ha]; exact List.mem_cons_self
              have mb : (keysS g)[i] ∈ rowAt g (keysS g)[i] := by rw [hb]; exact List.mem_cons_self
              refine ⟨_, ma, _, mb, ?_⟩
              have a1 := ((hP.mem_row mk).1 ma).1
              have b1 := ((hP.mem_row mi).1 mb).1
              have := (farV_bd (l.getD ((keysS g)[k]).toNat default).Vec (l.getD ((keysS g)[i]).toNat default).Vec (by rw [getD_at (show ((keysS g)[k]).toNat < l.length by omega)]; exact C.good.vec _ (List.getElem_mem _)) (by rw [getD_at (show ((keysS g)[i]).toNat < l.length by omega)]; exact C.good.vec _ (List.getElem_mem _))).2
              unfold distI
              omega
            · exact ⟨a, ha, b, hb, by omega⟩
          obtain ⟨a, ha, b, hb, hab⟩ := hnear
          obtain ⟨a1, a2⟩ := (hP.mem_row mk).1 ha
          obtain ⟨b1, b2⟩ := (hP.mem_row mi).1 hb
          have hap : (mGet mp ((k : Int), (i : Int))).getD false = true := by
            rcases C.done.far _ _ (keysS_mem.1 mk) (keysS_mem.1 mi) hlk with ⟨m, hm, h⟩ | h
            · obtain ⟨z, hz, rfl⟩ := List.mem_map.1 hm
              obtain ⟨hz1, hz2⟩ := List.mem_filter.1 hz
              have hz2 : z.Must = false := by simpa using hz2
              have := hmp z hz1 hz2
              have pz : pairG l g z = ((k : Int), (i : Int)) := by
                unfold pairG
                rcases h with ⟨h1, h2⟩ | ⟨h1, h2⟩
                · have e1 : ixG g (posI l z.A) = k := hP.ix_of hkk h1
                  have e2 : ixG g (posI l z.B) = i := hP.ix_of hik h2
                  rw [e1, e2, Int.min_eq_left (by omega), Int.max_eq_right (by omega)]
                · have e1 : ixG g (posI l z.B) = k := hP.ix_of hkk h1
                  have e2 : ixG g (posI l z.A) = i := hP.ix_of hik h2
                  rw [e1, e2, Int.min_eq_right (by omega), Int.max_eq_left (by omega)]
              rw [← pz]; exact this
            · have := h a.toNat b.toNat (by omega) (by omega) (by rw [show ((a.toNat : Nat) : Int) = a by omega]; exact a2) (by rw [show ((b.toNat : Nat) : Int) = b by omega]; exact b2)
              omega
          rw [decide_eq_true hle, cnd_true, hap]
          show cnd false _ _ = _
          rw [cnd_false, fin]
        · rw [decide_eq_false hle, cnd_false, fin]
      · show Keep_FaceClusters_l5 l limit r mp (i : Int) next next5 (i : Int) = _
        unfold Keep_FaceClusters_l5
        rw [decide_eq_false (by omega), cnd_false]
        unfold Keep_FaceClusters_j4
        rw [gI_ok (by omega), bnd_pure]
    · refine .inl ⟨true, rfl, fun next => ?_⟩
      show Keep_FaceClusters_l3 l limit r mp next (i : Int) = _
      unfold Keep_FaceClusters_l3
      rw [hr, decide_eq_false (by omega), cnd_false]) 0 ⟨0, rfl, Nat.zero_le _⟩
  rw [e, h1]
theorem Clus.mid (C : Clus l bs limit g) (r : List (List Int) × Int) (hr : r.1 = rowsL l g) : Keep_FaceClusters_j1 l bs limit r (ofR 0 (rowsL l g)) = some true := by
  unfold Keep_FaceClusters_j1
  have hlen : (ofR 0 (rowsL l g)).length = l.length := by
    have := congrArg List.length (ofR_keys (rowsL l g) 0)
    rw [List.length_map] at this
    rw [this]; exact ids_len C.done.part
  have hb := C.len
  rw [hlen, decide_eq_false (by omega), cnd_false]
  obtain ⟨v, e, h1⟩ := fix_run (F := fun next7 s => Keep_FaceClusters_l7 l bs limit r (ofR 0 (rowsL l g)) next7 s.1 s.2) (fun s => ∃ k : Nat, s.1 = (k : Int) ∧ k ≤ bs.length ∧ ∀ (j : Nat) (hj : j < bs.length), j < k → bs[j].Must = false → (mGet s.2 (pairG l g bs[j])).getD false = true) (fun s => bs.length - s.1.toNat) (fun v => v = true) (fun s => by
    obtain ⟨x, mp⟩ := s
    rintro ⟨k, hx, hk, hI⟩
    have hx : x = (k : Int) := hx
    subst hx
    by_cases hlt : k < bs.length
    · have hm := List.getElem_mem hlt
      obtain ⟨h1, h2⟩ := C.ends _ hm
      have hbd := C.bond hm
      have open_ : ∀ next, Keep_FaceClusters_l7 l bs limit r (ofR 0 (rowsL l g)) next (k : Int) mp = next ((k : Int) + 1, if bs[k].Must = false then mSet mp (pairG l g bs[k]) true else mp) := fun next => by
        unfold Keep_FaceClusters_l7 Keep_FaceClusters_j8
        rw [decide_eq_true (by omega), cnd_true, gAt_nat hlt, bnd_pure, C.of_eq h1, C.of_eq h2]
        have hd : decide (((ixG g (posI l bs[k].A) : Nat) : Int) = ((ixG g (posI l bs[k].B) : Nat) : Int)) = bs[k].Must := by
          rw [hbd]; exact decide_eq_decide.2 (by omega)
        rw [hd, decide_eq_false (by simp), cnd_false]
        cases bs[k].Must with
        | true =>
          show cnd false _ _ = _
          rw [cnd_false, if_neg (by simp)]
          rw [gI_ok (by omega), bnd_pure]
        | false =>
          show cnd true _ _ = _
          rw [cnd_true, if_pos rfl]
          rw [gI_ok (by omega), bnd_pure]
          rfl
      refine .inr ⟨_, ⟨k + 1, ?_, hlt, fun j hj hjk hmu => ?_⟩, ?_, open_⟩
      · show (k : Int) + 1 = ((k + 1 : Nat) : Int); omega
      · show (mGet (if bs[k].Must = false then mSet mp (pairG l g bs[k]) true else mp) (pairG l g bs[j])).getD false = true
        by_cases hjk' : j = k
        · subst hjk'
          rw [if_pos hmu, mGet_mSet, if_pos rfl]; rfl
        · have := hI j hj (by omega) hmu
          by_cases hmk : bs[k].Must = false
          · rw [if_pos hmk, mGet_mSet]
            by_cases he : pairG l g bs[k] = pairG l g bs[j]
            · rw [if_pos he]; rfl
            · rw [if_neg he]; exact this
          · rw [if_neg hmk]; exact this
      · show bs.length - ((k : Int) + 1).toNat < bs.length - (k : Int).toNat; omega
    · refine .inl ⟨true, rfl, fun next => ?_⟩
      show Keep_FaceClusters_l7 l bs limit r (ofR 0 (rowsL l g)) next (k : Int) mp = _
      unfold Keep_FaceClusters_l7
      rw [decide_eq_false (by omega), cnd_false]
      refine C.last (fun b hb' hm => ?_) 0 r hr
      obtain ⟨j, hj, rfl⟩ := List.mem_iff_getElem.1 hb'
      exact hI j hj (by omega) hm) (0, []) ⟨0, rfl, Nat.zero_le _, fun j _ hj => by omega⟩
  rw [e, h1]
theorem Clus.law (C : Clus l bs limit g) (r : List (List Int) × Int) (hr : r.1 = rowsL l g) : fix (fun next9 s => Keep_FaceClusters_l9 l bs limit r next9 s.1 s.2) (0, []) = some true := by
  obtain ⟨hs1, hs2⟩ := C.small
  have hP := C.done.part
  obtain ⟨v, e, h1⟩ := fix_run (F := fun next9 s => Keep_FaceClusters_l9 l bs limit r next9 s.1 s.2) (fun s => ∃ k : Nat, s = ((k : Int), ofR 0 ((rowsL l g).take k)) ∧ k ≤ (rowsL l g).length) (fun s => (rowsL l g).length - s.1.toNat) (fun v => v = true) (fun s => by
    rintro ⟨k, rfl, hk⟩
    by_cases hlt : k < (rowsL l g).length
    · refine .inr ⟨((k : Int) + 1, ofR 0 ((rowsL l g).take (k + 1))), ⟨k + 1, by simp, hlt⟩, by show (rowsL l g).length - ((k : Int) + 1).toNat < (rowsL l g).length - (k : Int).toNat; omega, fun next => ?_⟩
      show Keep_FaceClusters_l9 l bs limit r next (k : Int) (ofR 0 ((rowsL l g).take k)) = _
      have hkk : k < (keysS g).length := by rw [← rows_len (l := l)]; exact hlt
      have mk : (keysS g)[k] ∈ keysS g := List.getElem_mem hkk
      have k1 := C.row_small mk
      have hrow := rows_at (l := l) (g := g) hlt
      have hin := inner_eq (R := rowsL l g) (ids_nodup C.good hP) hlt (by rw [hrow]; omega) (by omega)
      have head : ∀ (j : Nat) (hj : j < (keysS g).length), gAt (rowIds l g (keysS g)[j]) 0 = some (idAt l (keysS g)[j]) := fun j hj => by
        obtain ⟨t, ht⟩ := hP.row_head (List.getElem_mem hj)
        rw [rowIds_eq, ht, List.map_cons]; rfl
      unfold Keep_FaceClusters_l9
      rw [hr, decide_eq_true (by omega), cnd_true, gAt_nat hlt, bnd_pure, decide_eq_false (by rw [hrow]; omega), cnd_false]
      rw [isSorted_eq (r := (rowsL l g)[k]) (by rw [hrow]; exact ids_rise C.good hP mk) (by rw [hrow]; omega) (by rw [hrow]; omega), bnd_pure]
      show cnd false _ _ = _
      rw [cnd_false]
      unfold Keep_FaceClusters_j11
      by_cases h0 : 0 < (k : Int)
      · have hp : gAt (rowsL l g) ((k : Int) - 1) = some (rowsL l g)[k - 1] := by
          have := gAt_nat (xs := rowsL l g) (k := k - 1) (by omega)
          rwa [show ((k - 1 : Nat) : Int) = (k : Int) - 1 by omega] at this
        have hlt' := List.pairwise_iff_getElem.1 (keysS_lt hP) (k - 1) k (by omega) hkk (by omega)
        have hge := (hP.key_in (keysS_mem.1 (List.getElem_mem (show k - 1 < (keysS g).length by omega)))).1
        have hlt2 := idAt_lt C.good hge hlt' (hP.key_in (keysS_mem.1 mk)).2
        rw [decide_eq_true h0, cnd_true, gI_ok (by omega), bnd_pure, hp, bnd_pure]
        rw [show gAt (rowsL l g)[k - 1] 0 = some (idAt l ((keysS g)[k - 1]'(by omega))) by rw [rows_at (by omega)]; exact head _ _, bnd_pure]
        rw [show gAt (rowsL l g)[k] 0 = some (idAt l (keysS g)[k]) by rw [hrow]; exact head _ _, bnd_pure]
        rw [decide_eq_false (by omega), cnd_false, hin]
      · rw [decide_eq_false h0, cnd_false, hin]
    · have : k = (rowsL l g).length := by omega
      subst this
      refine .inl ⟨true, rfl, fun next => ?_⟩
      show Keep_FaceClusters_l9 l bs limit r next ((rowsL l g).length : Int) (ofR 0 ((rowsL l g).take (rowsL l g).length)) = _
      unfold Keep_FaceClusters_l9
      rw [hr, decide_eq_false (by omega), cnd_false, List.take_length]
      exact C.mid r hr) (0, []) ⟨0, rfl, Nat.zero_le _⟩
  rw [e, h1]
end
theorem awake : Keep_awakeFace = some true := by
  have z0 : vecF (fun _ => 0) = 0 := by decide
  have z3 : vecF (ofL [3, 0, 0, 0, 0, 0, 0, 0, 0, 0, 0, 0]) = 0 := by decide
  unfold Keep_awakeFace face_Far
  rw [checkVecs_eq _ (by simp), bnd_pure]
  have hv : vecsF [fun _ => (0 : Int), ofL [3, 0, 0, 0, 0, 0, 0, 0, 0, 0, 0, 0]] = 0 := by
    unfold vecsF
    refine firstE_all _ _ fun j _ hj => ?_
    have hj : j < 2 := by simpa using hj
    match j, hj with
    | 0, _ => exact z0
    | 1, _ => exact z3
  rw [hv, decide_eq_false (by omega), cnd_false, far_eq _ _ z0 z3, bnd_pure, bnd_pure, decide_eq_true rfl, cnd_true]
  have : farV (fun _ => 0) (ofL [3, 0, 0, 0, 0, 0, 0, 0, 0, 0, 0, 0]) = 9 := by decide
  rw [this]; rfl
theorem faceClusters (l : List T_face_Likeness) (bs : List T_face_Bond) (limit : Int) (hl : l.length ≤ 9223372036854775807) : Keep_FaceClusters l bs limit = some true := by
  unfold Keep_FaceClusters
  rw [awake, bnd_pure]
  show cnd false _ _ = _
  rw [cnd_false]
  obtain ⟨r, e, h⟩ := cluster_eq l bs limit hl
  rw [e, bnd_pure]
  by_cases h0 : r.2 = 0
  · obtain ⟨g, C, hr⟩ := h h0
    rw [h0, decide_eq_false (by omega), cnd_false]
    exact C.law r hr
  · rw [decide_eq_true h0, cnd_true]
theorem faceClustersS (l : List T_face_Likeness) (bs : List T_face_Bond) (limit : Int) {α φ β γ : Prop} (h1 : (l.length ≤ 9223372036854775807 ∧ α) ∧ φ) (_ : β) (_ : γ) : Keep_FaceClusters l bs limit = some true := faceClusters l bs limit h1.1.1
end Go.M

namespace Go.Vc
open Go

variable {H : Type} {enc : TypeId × Value → H} {P : Program} {w : World} {base : Nat} {spare : Nat → Bool} {held : Bool}

theorem cells_addr {w : World} {base k : Nat} {a : Addr} {cs : List Value} (h : w.cells? base a k = some cs) : cs.length = k ∧ ∀ i, i < k → w.cell? (a.add i) = cs[i]? :=
  (World.cells?_some h).2

theorem cell_spot {w : World} {a : Addr} {v : Value} (h : w.cell? a = some v) : a.spot = none := by
  unfold World.cell? at h
  split at h
  · split at h
    · cases h
    · rename_i hs; simpa using hs
  · cases h

theorem op_int {t fuel : Nat} {k : IntKind} {cs : List Value} {x : DataW H × List MemPlace} (ht : P.underlying t = some (.int k)) (h : DataW.trod enc P w base spare held fuel t cs = some x) : ∃ n : Int, cs = [.int k n] ∧ (Lit.int k n).wf = true := by
  obtain ⟨n, h1, _, h2⟩ := DataW.trod_int ht h
  exact ⟨n, h1, h2⟩

theorem op_bool {t fuel : Nat} {cs : List Value} {x : DataW H × List MemPlace} (ht : P.underlying t = some .bool) (h : DataW.trod enc P w base spare held fuel t cs = some x) : ∃ b : Bool, cs = [.bool b] := by
  obtain ⟨n, h1, _⟩ := DataW.trod_bool ht h
  exact ⟨n, h1⟩

theorem op_elem {t fuel i m e : Nat} {cs : List Value} {x : DataW H × List MemPlace} (ht : P.underlying t = some (.array m e)) (hi : i < m) (h : DataW.trod enc P w base spare held fuel t cs = some x) :
    ∃ n y, DataW.trod enc P w base spare held n e ((cs.drop (i * P.cellsOf e)).take (P.cellsOf e)) = some y := by
  obtain ⟨xs, n, _, _, _, hl, hp⟩ := DataW.trod_array ht h
  have h1 := hp i hi
  rw [List.getElem?_eq_getElem (by omega)] at h1
  exact ⟨n, _, h1⟩

end Go.Vc

namespace Go.Lx
open Go Go.Vc Go.Md

variable {H : Type} {enc : TypeId × Value → H} {P : Program} {w : World} {base : Nat} {spare : Nat → Bool} {held : Bool}

theorem piece {cs l : List Value} {o s : Nat} (h : (cs.drop o).take s = l) (hl : l.length = s) : cs.drop o = l ++ cs.drop (o + s) := by
  have := List.take_append_drop s (cs.drop o)
  rw [h, List.drop_drop] at this
  exact this.symm

theorem op_arr {α : Type} [Inhabited α] {f : α → List Value} {good : α → Prop} {t e sz m fuel : Nat} {cs : List Value} {x : DataW H × List MemPlace} (ht : P.underlying t = some (.array m e)) (hc : P.cellsOf e = sz) (hf : ∀ a, (f a).length = sz)
    (hD : ∀ n cs x, cs.length = sz → DataW.trod enc P w base spare held n e cs = some x → ∃ a, cs = f a ∧ good a) (hlen : cs.length = m * sz) (h : DataW.trod enc P w base spare held fuel t cs = some x) :
    ∃ g : Nat → α, cs = (List.range m).flatMap (fun j => f (g j)) ∧ ∀ j, j < m → good (g j) := by
  have each : ∀ i : Fin m, ∃ a : α, (cs.drop (i * sz)).take sz = f a ∧ good a := by
    intro i
    obtain ⟨n, y, hy⟩ := op_elem ht i.2 h
    rw [hc] at hy
    have hle : (i + 1) * sz ≤ m * sz := Nat.mul_le_mul_right _ i.2
    rw [Nat.succ_mul] at hle
    exact hD _ _ _ (by rw [List.length_take, List.length_drop]; omega) hy
  have hch : ∃ g : Fin m → α, ∀ i : Fin m, (cs.drop (i * sz)).take sz = f (g i) ∧ good (g i) := ⟨fun i => (each i).choose, fun i => (each i).choose_spec⟩
  obtain ⟨g, hg⟩ := hch
  refine ⟨fun j => if h : j < m then g ⟨j, h⟩ else default, ?_, fun j hj => by show good (if h : j < m then g ⟨j, h⟩ else default); rw [dif_pos hj]; exact (hg ⟨j, hj⟩).2⟩
  have key : ∀ k, k ≤ m → cs = ((List.range k).flatMap fun j => f (if h : j < m then g ⟨j, h⟩ else default)) ++ cs.drop (k * sz) := by
    intro k
    induction k with
    | zero => intro _; simp
    | succ k ih =>
      intro hk
      have h1 := ih (by omega)
      have h2 := piece (hg ⟨k, by omega⟩).1 (hf _)
      rw [List.range_succ, List.flatMap_append, List.flatMap_singleton, dif_pos (show k < m by omega), List.append_assoc, Nat.succ_mul]
      rw [← h2]
      exact h1
  have := key m (Nat.le_refl _)
  rwa [List.drop_of_length_le (by omega), List.append_nil] at this

theorem Row.snap {w : World} {a : Option Addr} {sz : Nat} {xs : List (List Value)} (h : Row w a sz xs) (hsz : 0 < sz) : RowH (fun b => w.heap[b]?) a sz xs := by
  rcases h with h | ⟨b, off, ha, h⟩
  · exact .inl h
  · cases xs with
    | nil => exact .inl rfl
    | cons x r =>
      have h0 := h 0 x rfl
      have hv := h0.2 0 x[0] (by simp [h0.1, hsz])
      unfold World.cell? at hv
      split at hv
      · rename_i c T m hb
        refine .inr ⟨b, off, c, T, m, ha, hb, fun i y hy => ⟨(h i y hy).1, fun j v hj => ?_⟩⟩
        have := (h i y hy).2 j v hj
        unfold World.cell? at this
        rw [hb] at this
        simpa using this
      · cases hv

theorem val_cell {r : Reach} {b0 t : Nat} {v : Value} (ht : (match P.underlying t with | some (.int _) | some (.slice _) | some .string | some .bool => true | _ => false) = true) (hval : Value.okWide P w r b0 t v) : v.cells.toList = [v] := by
  unfold Value.okWide at hval
  split at hval
  · rename_i h; rw [h] at ht; cases ht
  · rename_i h; rw [h] at ht; cases ht
  · cases v with
    | agg cs =>
      exfalso
      unfold Cell.okWide at hval
      split at ht <;> simp_all [Cell.ok]
    | _ => rfl

end Go.Lx

namespace Go.Vc
open Go Go.Lx

variable {H : Type} {enc : TypeId × Value → H} {P : Program} {w : World} {base : Nat} {spare : Nat → Bool} {held : Bool}

structure BK (bk : DataW H → Nat) : Prop where
  slice : ∀ (es rs : List (DataW H)) (d : DataW H), d ∈ es → bk d ≤ bk (.slice es rs)
  agg : ∀ (es : List (DataW H)) (d : DataW H), d ∈ es → bk d ≤ bk (.agg es)
  str : ∀ bs : List UInt8, bs.length ≤ bk (.lit (.string bs))

end Go.Vc

namespace Go.Vc
open Go Go.Lx

variable {H : Type} {enc : TypeId × Value → H} {P : Program} {w : World} {base : Nat} {spare : Nat → Bool} {held : Bool}

def Wt (P : Program) (B : Nat) (t : TypeId) (d : DataW H) : Prop := ∀ n ∈ DataW.weights P t d, n ≤ B

theorem mem_each {n : Nat} : ∀ (ts : List TypeId) (ds : List (DataW H)) (i : Nat) (t : TypeId) (d : DataW H), ts[i]? = some t → ds[i]? = some d → n ∈ DataW.weights P t d → n ∈ DataW.weightsEach P ts ds
  | [], _, i, t, d, h, _, _ => by simp at h
  | t' :: ts, [], i, t, d, _, h, _ => by simp at h
  | t' :: ts, d' :: ds, 0, t, d, h1, h2, h3 => by
    simp at h1 h2; subst h1 h2
    simp only [DataW.weightsEach, List.mem_append]; exact .inl h3
  | t' :: ts, d' :: ds, i + 1, t, d, h1, h2, h3 => by
    simp only [DataW.weightsEach, List.mem_append]
    exact .inr (mem_each ts ds i t d (by simpa using h1) (by simpa using h2) h3)

theorem mem_all {n : Nat} {e : TypeId} : ∀ (ds : List (DataW H)) (d : DataW H), d ∈ ds → n ∈ DataW.weights P e d → n ∈ DataW.weightsAll P e ds
  | [], _, h, _ => by cases h
  | d' :: ds, d, h, h3 => by
    simp only [DataW.weightsAll, List.mem_append]
    rcases List.mem_cons.1 h with rfl | h
    · exact .inl h3
    · exact .inr (mem_all ds d h h3)

theorem wt_arg {B : Nat} {ts : List TypeId} {ds : List (DataW H)} (h : (DataW.weightsEach P ts ds).all (· ≤ B) = true) (i : Nat) {t : TypeId} {d : DataW H} (ht : ts[i]? = some t) (hd : ds[i]? = some d) : Wt P B t d := fun n hn => by
  have := List.all_eq_true.1 h n (mem_each ts ds i t d ht hd hn)
  simpa using this

theorem op_fieldW {B t fuel i ft fo sz bo : Nat} {nm tg pk : String} {em : Bool} {fs : Array Field} {cs : List Value} {x : DataW H × List MemPlace} (hB : Wt P B t x.1) (ht : P.underlying t = some (.struct fs)) (hf : fs[i]? = some ⟨nm, ft, fo, em, tg, pk, bo⟩) (hc : P.cellsOf ft = sz) (h : DataW.trod enc P w base spare held fuel t cs = some x) :
    ∃ n y, DataW.trod enc P w base spare held n ft ((cs.drop fo).take sz) = some y ∧ Wt P B ft y.1 := by
  subst hc
  obtain ⟨xs, n, _, hx, _, hl, hp⟩ := DataW.trod_struct ht h
  have h1 := hp i _ hf
  have hi : i < fs.size := by
    rcases Nat.lt_or_ge i fs.size with h | h
    · exact h
    · rw [Array.getElem?_eq_none h] at hf; cases hf
  rw [List.getElem?_eq_getElem (by omega)] at h1
  refine ⟨n, _, h1, fun k hk => hB k ?_⟩
  rw [hx]
  simp only [DataW.weights, ht]
  have hft : (fs.toList.map (·.type))[i]? = some ft := by rw [List.getElem?_map, Array.getElem?_toList, hf]; rfl
  exact mem_each _ _ i ft _ hft (by rw [List.getElem?_map, List.getElem?_eq_getElem (by omega)]; rfl) hk

theorem op_sliceW {B by_ : Nat} {α : Type} {f : α → List Value} {good : α → Prop} {t e sz fuel : Nat} {cs : List Value} {x : DataW H × List MemPlace} (hB : Wt P B t x.1) (ht : P.underlying t = some (.slice e)) (hc : P.cellsOf e = sz) (hsz : Nat.blt 0 sz = true) (hby : P.bytesOf e = by_)
    (hD : ∀ n cs x, Wt P B e x.1 → cs.length = sz → DataW.trod enc P w base spare held n e cs = some x → ∃ a, cs = f a ∧ good a) (h : DataW.trod enc P w base spare held fuel t cs = some x) :
    ∃ (v : Value) (xs : List α), cs = [v] ∧ FrS (fun b => w.heap[b]?) sz v (xs.map f) ∧ (xs.length ≤ 9223372036854775807 ∧ xs.length * by_ ≤ B) ∧ ∀ x ∈ xs, good x := by
  subst hby
  have h' := h
  rcases DataW.trod_slice ht h with ⟨rfl, _⟩ | ⟨a, len, cap, elems, rest, n, _, rfl, hx, _, hl, hm, hlen, hel, _⟩
  · exact ⟨_, [], rfl, FrS.nil _ _, ⟨by simp, by simp⟩, by simp⟩
  · -- the elements, and no others
    have each : ∀ i : Fin len, ∃ a' : α, w.cells? base (a.add (i * sz)) sz = some (f a') ∧ good a' := by
      intro i
      have hi := hel i i.2
      rw [hc] at hi
      have hlt : (i : Nat) < elems.length := by rw [hlen]; exact i.2
      rw [List.getElem?_eq_getElem hlt, Option.bind_eq_some_iff] at hi
      obtain ⟨cs', h1, h2⟩ := hi
      have hb : Wt P B e (elems[(i : Nat)]).1 := fun k hk => hB k (by
        rw [hx]
        simp only [DataW.weights, ht, List.mem_cons, List.mem_append]
        exact .inr (.inl (mem_all _ _ (List.mem_map.2 ⟨_, List.getElem_mem _, rfl⟩) hk)))
      obtain ⟨a', rfl, hg⟩ := hD _ _ _ hb (cells_addr h1).1 h2
      exact ⟨a', h1, hg⟩
    have hsz' : 0 < sz := by simpa using hsz
    have hch : ∃ g : Fin len → α, ∀ i : Fin len, w.cells? base (a.add (i * sz)) sz = some (f (g i)) ∧ good (g i) := ⟨fun i => (each i).choose, fun i => (each i).choose_spec⟩
    obtain ⟨g, hg⟩ := hch
    have hrow : Row w (some a) sz ((List.ofFn g).map f) := by
      cases len with
      | zero => left; simp
      | succ k =>
        have h0 := hg 0
        have hsp : a.spot = none := by
          have := (cells_addr h0.1).2 0 hsz'
          have hln := (cells_addr h0.1).1
          rw [List.getElem?_eq_getElem (by omega)] at this
          have hs := cell_spot this
          simpa [Addr.add] using hs
        obtain ⟨b, off, spot⟩ := a
        simp only at hsp
        subst hsp
        refine .inr ⟨b, off, rfl, fun i x hx => ?_⟩
        have hi : i < k + 1 := by
          rcases Nat.lt_or_ge i (k + 1) with h | h
          · exact h
          · rw [List.getElem?_eq_none (by simpa using h)] at hx; cases hx
        have hx' : x = f (g ⟨i, hi⟩) := by
          rw [List.getElem?_map, List.getElem?_ofFn, dif_pos hi] at hx
          exact (Option.some.inj hx).symm
        subst hx'
        obtain ⟨c1, c2⟩ := cells_addr (hg ⟨i, hi⟩).1
        refine ⟨c1, fun j v hv => ?_⟩
        have hj : j < sz := by
          rcases Nat.lt_or_ge j sz with h | h
          · exact h
          · rw [List.getElem?_eq_none (by omega)] at hv; cases hv
        have := c2 j hj
        rw [hv, Addr.add_lit, Addr.add_lit] at this
        exact this
    have hm' : cap ≤ 9223372036854775807 := by simpa [maxLen] using hm
    refine ⟨_, List.ofFn g, rfl, ⟨⟨some a, cap, by simp, by simpa using hl, hm', Row.snap hrow hsz'⟩⟩, ⟨by simp; omega, ?_⟩, ?_⟩
    · have := hB ((elems.length + rest.length) * P.bytesOf e) (by rw [hx]; simp [DataW.weights, ht])
      rw [List.length_ofFn]
      refine Nat.le_trans (Nat.mul_le_mul_right _ ?_) this
      omega
    intro x hx
    rw [List.mem_ofFn] at hx
    obtain ⟨i, rfl⟩ := hx
    exact (hg i).2

end Go.Vc
