/- The law WhereTracks in plain Lean: what At, Length and CheckTrack are, and what the reference has. Conditions: none. -/
import Derived.Test.YtinpjnlocahjjaaWP
namespace Go.M
open Go.Md Go.Pl Go.Vc.Where

theorem shr1 (x : Int) : gShr 64 x 1 = some (x / 2) := by
  unfold gShr
  rw [if_pos (by omega)]
  have : (1 : Int).toNat = 1 := rfl
  rw [this]
  have h2 : (2 : Int) ^ (min 1 64) = 2 := by decide
  rw [h2]
theorem search_step (f : Int → Option Bool) (next : Int × Int → Option Int) (i j : Int) (m : Nat) (hij : i < j) (hm : (i + j) / 2 = m) (hi : 0 ≤ i) (hj : j ≤ 1000000000) :
    sort_Search_l1 f next i j = bnd (f m) fun b => cnd (!b) (next ((m : Int) + 1, j)) (next (i, (m : Int))) := by
  unfold sort_Search_l1
  rw [cnd_if, if_pos hij, gI_ok (by omega), bnd_pure, wU64_in (by omega), shr1, hm, bnd_pure, wI64_in (by omega), gI_ok (by omega)]
  rfl
theorem search_stop (f : Int → Option Bool) (next : Int × Int → Option Int) (i j : Int) (hij : ¬ i < j) : sort_Search_l1 f next i j = some i := by
  unfold sort_Search_l1
  rw [cnd_if, if_neg hij]
/-- A search finds the first place from which on the answer is yes. -/
theorem search_eq {f : Int → Option Bool} {len n : Nat} (hn : n ≤ len) (hl : len ≤ 1000000000) (h0 : ∀ i : Nat, i < n → f i = some false) (h1 : ∀ i : Nat, n ≤ i → i < len → f i = some true) : sort_Search (len : Int) f = some (n : Int) := by
  unfold sort_Search
  refine fix_of (F := fun next1 (s : Int × Int) => sort_Search_l1 f next1 s.1 s.2) (fun _ => some (n : Int)) (fun s => 0 ≤ s.1 ∧ s.1 ≤ n ∧ n ≤ s.2 ∧ s.2 ≤ len) (fun s => (s.2 - s.1).toNat) ?_ (0, (len : Int)) ⟨by simp, by simp, by simp; omega, by simp⟩
  rintro next ⟨i, j⟩ ⟨g0, g1, g2, g3⟩ ih
  simp only at g0 g1 g2 g3
  show sort_Search_l1 f next i j = _
  by_cases hij : i < j
  · obtain ⟨m, hm⟩ : ∃ m : Nat, (i + j) / 2 = (m : Int) := ⟨((i + j) / 2).toNat, by omega⟩
    rw [search_step f next i j m hij hm g0 (by omega)]
    rcases Nat.lt_or_ge m n with h | h
    · rw [h0 m h]
      exact ih ((m : Int) + 1, j) ⟨by simp only; omega, by simp only; omega, by simp only; omega, by simp only; omega⟩ (by simp only; omega)
    · rw [h1 m h (by omega)]
      exact ih (i, (m : Int)) ⟨by simp only; omega, by simp only; omega, by simp only; omega, by simp only; omega⟩ (by simp only; omega)
  · rw [search_stop f next i j hij]; congr 1; omega

/-- How many fixes lie ahead of a moment. -/
def ahead (t : List T_where_Fix) (m : Int) : Nat := t.findIdx fun f => decide (m ≤ f.Moment)

theorem ahead_le (t : List T_where_Fix) (m : Int) : ahead t m ≤ t.length := List.findIdx_le_length
theorem ahead_lt {t : List T_where_Fix} {m : Int} {i : Nat} (h : i < ahead t m) (hi : i < t.length) : t[i].Moment < m := by
  have := List.not_of_lt_findIdx h
  simpa using this
theorem ahead_ge {t : List T_where_Fix} (ht : TR t) {m : Int} {i : Nat} (h : ahead t m ≤ i) (hi : i < t.length) : m ≤ t[i].Moment := by
  have hlt : ahead t m < t.length := by omega
  have h0 : m ≤ t[ahead t m].Moment := by
    have := List.findIdx_getElem (xs := t) (p := fun f : T_where_Fix => decide (m ≤ f.Moment)) (w := hlt)
    exact of_decide_eq_true this
  rcases Nat.lt_or_ge (ahead t m) i with h' | h'
  · have := ht.lt h' hi; omega
  · have : i = ahead t m := by omega
    subst this; exact h0

theorem at_search {t : List T_where_Fix} (ht : TR t) (m : Int) : sort_Search (t.length : Int) (where_at_1 t m) = some (ahead t m : Int) := by
  refine search_eq (ahead_le t m) (by have := ht.len; omega) (fun i hi => ?_) fun i hi hl => ?_
  · have hl : i < t.length := by have := ahead_le t m; omega
    unfold where_at_1
    rw [gAt_nat hl, bnd_pure]
    have := ahead_lt hi hl
    simp; omega
  · unfold where_at_1
    rw [gAt_nat hl, bnd_pure]
    have := ahead_ge ht hi hl
    simp; omega

/-- The choice, over the fix before and the fix after, where there are such. -/
noncomputable def pick (b a : Option T_where_Fix) (m g : Int) : T_api_Place × Bool :=
  match b, a with
  | some b, some a => if a.Moment - b.Moment ≤ g then (betwP b.Place a.Place (m - b.Moment) (a.Moment - b.Moment), true) else if m - b.Moment ≤ g ∧ m - b.Moment ≤ a.Moment - m then (b.Place, true) else if a.Moment - m ≤ g then (a.Place, true) else (⟨0, 0⟩, false)
  | some b, none => if m - b.Moment ≤ g then (b.Place, true) else (⟨0, 0⟩, false)
  | none, some a => if a.Moment - m ≤ g then (a.Place, true) else (⟨0, 0⟩, false)
  | none, none => (⟨0, 0⟩, false)

noncomputable def atS' (t : List T_where_Fix) (m g : Int) : T_api_Place × Bool :=
  if h : ahead t m < t.length ∧ (t.getD (ahead t m) default).Moment = m then ((t.getD (ahead t m) default).Place, true)
  else pick (if 0 < ahead t m then some (t.getD (ahead t m - 1) default) else none) (if ahead t m < t.length then some (t.getD (ahead t m) default) else none) m g

theorem j1_both {t : List T_where_Fix} (ht : TR t) {m g : Int} {n : Nat} (hn0 : 0 < n) (hn : n < t.length) (hg : 0 ≤ g ∧ g ≤ 9223372036854775807) (hb : t[n - 1].Moment < m) (ha : m < t[n].Moment) :
    where_at_j1 t m g n = some (pick (some t[n - 1]) (some t[n]) m g) := by
  have hlen := ht.len
  have gb : gAt t ((n : Int) - 1) = some t[n - 1] := by rw [show (n : Int) - 1 = ((n - 1 : Nat) : Int) from by omega]; exact gAt_nat (by omega)
  have ga : gAt t (n : Int) = some t[n] := gAt_nat hn
  have hbr := ht.mom (n - 1) (by omega)
  have har := ht.mom n hn
  have hbp := ht.pl (n - 1) (by omega)
  have hap := ht.pl n hn
  generalize hA : t[n] = a at *
  generalize hB : t[n - 1] = b at *
  have e1 : where_at_j1 t m g n = where_at_j3 t g n (m - b.Moment) (a.Moment - m) := by
    unfold where_at_j1 where_at_j2
    rw [cnd_if, if_pos (by omega), gI_ok (by omega), bnd_pure, gb, bnd_pure, gI_ok (by omega), bnd_pure, cnd_if, if_pos (by omega), ga, bnd_pure, gI_ok (by omega), bnd_pure]
  rw [e1]
  unfold where_at_j3
  rw [cnd_if, if_pos (by omega), cnd_if, if_pos (by omega), gI_ok (by omega), bnd_pure]
  unfold where_at_j5 pick
  simp only
  rw [show m - b.Moment + (a.Moment - m) = a.Moment - b.Moment from by omega, cnd_if]
  by_cases h1 : a.Moment - b.Moment ≤ g
  · rw [if_pos h1, if_pos h1, gI_ok (by omega), bnd_pure, gb, bnd_pure, ga, bnd_pure, gI_ok (by omega), bnd_pure, between_eq hbp hap (by omega) (by omega), bnd_pure]
  rw [if_neg h1, if_neg h1, cnd_if, if_pos (by omega), cnd_if]
  have j6 : ∀ q : Bool, where_at_j6 t g n (a.Moment - m) q = cnd q (some (b.Place, true)) (cnd (decide (a.Moment - m ≤ g)) (some (a.Place, true)) (some (⟨0, 0⟩, false))) := by
    intro q
    unfold where_at_j6 where_at_j4
    rw [gI_ok (by omega), bnd_pure, gb, bnd_pure, cnd_if (p := (n : Int) < _), if_pos (by omega), ga, bnd_pure]
  by_cases h2 : m - b.Moment ≤ g
  · rw [if_pos h2, cnd_if, if_neg (by omega), j6, cnd_if, cnd_if]
    by_cases h3 : m - b.Moment ≤ a.Moment - m
    · rw [if_pos h3, if_pos (show m - b.Moment ≤ g ∧ m - b.Moment ≤ a.Moment - m from ⟨h2, h3⟩)]
    · rw [if_neg h3, if_neg (show ¬ (m - b.Moment ≤ g ∧ m - b.Moment ≤ a.Moment - m) from fun h => h3 h.2)]
      by_cases h4 : a.Moment - m ≤ g
      · rw [if_pos h4, if_pos h4]
      · rw [if_neg h4, if_neg h4]
  · rw [if_neg h2, j6, cnd_false, cnd_if, if_neg (show ¬ (m - b.Moment ≤ g ∧ m - b.Moment ≤ a.Moment - m) from fun h => h2 h.1)]
    by_cases h4 : a.Moment - m ≤ g
    · rw [if_pos h4, if_pos h4]
    · rw [if_neg h4, if_neg h4]

theorem j1_last {t : List T_where_Fix} (ht : TR t) {m g : Int} {n : Nat} (hn0 : 0 < n) (hn : n = t.length) (hm : 0 ≤ m ∧ m ≤ 6311433599) (hg : 0 ≤ g ∧ g ≤ 9223372036854775807) (hb : (t[n - 1]'(by omega)).Moment < m) :
    where_at_j1 t m g n = some (pick (some (t[n - 1]'(by omega))) none m g) := by
  have hlen := ht.len
  have gb : gAt t ((n : Int) - 1) = some (t[n - 1]'(by omega)) := by rw [show (n : Int) - 1 = ((n - 1 : Nat) : Int) from by omega]; exact gAt_nat (by omega)
  have hbr := ht.mom (n - 1) (by omega)
  generalize hB : (t[n - 1]'(by omega)) = b at *
  have e1 : where_at_j1 t m g n = where_at_j3 t g n (m - b.Moment) g := by
    unfold where_at_j1 where_at_j2
    rw [cnd_if, if_pos (by omega), gI_ok (by omega), bnd_pure, gb, bnd_pure, gI_ok (by omega), bnd_pure, cnd_if, if_neg (by omega)]
  rw [e1]
  unfold where_at_j3
  rw [cnd_if, if_pos (by omega), cnd_if, if_neg (by omega)]
  unfold where_at_j5 pick
  rw [cnd_false, cnd_if, if_pos (by omega), cnd_if]
  have j6 : ∀ q : Bool, where_at_j6 t g n g q = cnd q (some (b.Place, true)) (some (⟨0, 0⟩, false)) := by
    intro q
    unfold where_at_j6 where_at_j4
    rw [gI_ok (by omega), bnd_pure, gb, bnd_pure, cnd_if (p := (n : Int) < _), if_neg (by omega)]
  by_cases h2 : m - b.Moment ≤ g
  · rw [if_pos h2, cnd_if, if_pos (by omega), j6, cnd_true]; simp only; rw [if_pos h2]
  · rw [if_neg h2, j6, cnd_false]; simp only; rw [if_neg h2]

theorem j1_first {t : List T_where_Fix} (ht : TR t) {m g : Int} (hn : 0 < t.length) (hm : 0 ≤ m ∧ m ≤ 6311433599) (hg : 0 ≤ g ∧ g ≤ 9223372036854775807) (ha : m < t[0].Moment) :
    where_at_j1 t m g ((0 : Nat) : Int) = some (pick none (some t[0]) m g) := by
  have hlen := ht.len
  have ga : gAt t ((0 : Nat) : Int) = some t[0] := gAt_nat hn
  have har := ht.mom 0 hn
  generalize hA : t[0] = a at *
  have e1 : where_at_j1 t m g ((0 : Nat) : Int) = where_at_j3 t g ((0 : Nat) : Int) g (a.Moment - m) := by
    unfold where_at_j1 where_at_j2
    rw [cnd_if, if_neg (by omega), cnd_if, if_pos (by omega), ga, bnd_pure, gI_ok (by omega), bnd_pure]
  rw [e1]
  unfold where_at_j3
  rw [cnd_if, if_neg (by omega)]
  unfold where_at_j5 pick
  rw [cnd_false, cnd_if, if_neg (by omega)]
  unfold where_at_j6 where_at_j4
  rw [cnd_false, cnd_if, if_pos (by omega), cnd_if, ga, bnd_pure]
  simp only
  by_cases h4 : a.Moment - m ≤ g
  · rw [if_pos h4, if_pos h4]
  · rw [if_neg h4, if_neg h4]

theorem j1_none {m g : Int} : where_at_j1 [] m g ((0 : Nat) : Int) = some (pick none none m g) := by
  unfold where_at_j1 where_at_j2 where_at_j3 where_at_j5 where_at_j6 where_at_j4 pick
  simp [cnd_if]

theorem at_eq {t : List T_where_Fix} (ht : TR t) {m g : Int} (hm : 0 ≤ m ∧ m ≤ 6311433599) (hg : 0 ≤ g ∧ g ≤ 9223372036854775807) : where_at t m g = some (atS' t m g) := by
  have hl := ht.len
  have hle := ahead_le t m
  have hlt := fun i (h : i < ahead t m) (hi : i < t.length) => ahead_lt (t := t) h hi
  have hge := fun i (h : ahead t m ≤ i) (hi : i < t.length) => ahead_ge ht h hi
  unfold where_at atS'
  rw [at_search ht m, bnd_pure]
  generalize ahead t m = n at *
  rw [cnd_if]
  by_cases h1 : n < t.length
  · rw [if_pos (by omega), gAt_nat h1, bnd_pure, cnd_if, bnd_pure, getD_of h1]
    by_cases h2 : t[n].Moment = m
    · rw [if_pos h2, dif_pos ⟨h1, h2⟩]
    · have h3 := hge n (Nat.le_refl _) h1
      rw [if_neg h2, dif_neg (fun h => h2 h.2), if_pos h1]
      by_cases h0 : 0 < n
      · rw [if_pos h0, getD_of (by omega : n - 1 < t.length)]
        exact j1_both ht h0 h1 hg (hlt (n - 1) (by omega) (by omega)) (by omega)
      · have : n = 0 := by omega
        subst this
        rw [if_neg (by omega)]
        exact j1_first ht h1 hm hg (by omega)
  · rw [if_neg (by omega), dif_neg (fun h => h1 h.1), if_neg h1]
    by_cases h0 : 0 < n
    · rw [if_pos h0, getD_of (by omega : n - 1 < t.length)]
      exact j1_last ht h0 (by omega) hm hg (hlt (n - 1) (by omega) (by omega))
    · rw [if_neg h0]
      have : n = 0 := by omega
      subst this
      have : t = [] := List.eq_nil_of_length_eq_zero (by omega)
      subst this
      exact j1_none

/-! ### the reference -/

theorem R_far_eq {x : Int} (h : -9223372036854775807 ≤ x ∧ x ≤ 9223372036854775807) : R_far x = some (max x (-x)) := by
  unfold R_far; rw [gI_ok (by omega), bnd_pure]

def pick2 (b a : Option T_where_Fix) (m g : Int) : T_api_Place × Bool :=
  match b, a with
  | some b, some a => if m - b.Moment ≤ g ∧ m - b.Moment ≤ a.Moment - m then (b.Place, true) else if a.Moment - m ≤ g then (a.Place, true) else (⟨0, 0⟩, false)
  | some b, none => if m - b.Moment ≤ g then (b.Place, true) else (⟨0, 0⟩, false)
  | none, some a => if a.Moment - m ≤ g then (a.Place, true) else (⟨0, 0⟩, false)
  | none, none => (⟨0, 0⟩, false)

/-- The last choice of the reference, over two indexes. -/
theorem R_j2 {t : List T_where_Fix} (ht : TR t) {m g : Int} {x y : Int} (hm : 0 ≤ m ∧ m ≤ 6311433599) (b a : Option T_where_Fix)
    (hx : match b with | some b => 0 ≤ x ∧ gAt t x = some b ∧ 0 ≤ b.Moment ∧ b.Moment < m | none => x < 0) (hy : match a with | some a => 0 ≤ y ∧ gAt t y = some a ∧ m < a.Moment ∧ a.Moment ≤ 6311433599 | none => y < 0) :
    R_AtOf_j2 t m g x y = some (pick2 b a m g) := by
  unfold R_AtOf_j2 pick2
  -- the end
  have e2 : ∀ next z, R_AtOf_l4 t m g x y next z 2 = R_AtOf_j3 t z := fun next z => by
    unfold R_AtOf_l4; rw [cnd_if, if_neg (by omega)]
  have d2 : ∀ z, fix (fun next4 (s : Int × Int) => R_AtOf_l4 t m g x y next4 s.1 s.2) (z, 2) = R_AtOf_j3 t z := fun z => fix_done fun next => e2 next z
  have none3 : ∀ z : Int, z < 0 → R_AtOf_j3 t z = some (⟨0, 0⟩, false) := fun z hz => by unfold R_AtOf_j3; rw [cnd_if, if_pos hz]
  have some3 : ∀ (z : Int) (f : T_where_Fix), 0 ≤ z → gAt t z = some f → R_AtOf_j3 t z = some (f.Place, true) := fun z f hz hf => by unfold R_AtOf_j3; rw [cnd_if, if_neg (by omega), hf, bnd_pure]
  -- one step over an index
  have skip : ∀ (i : Nat) (v z : Int) (next : Int × Int → Option (T_api_Place × Bool)), gAt ([x, y] : List Int) i = some v → i < 2 → v < 0 → R_AtOf_l4 t m g x y next z i = next (z, (i : Int) + 1) := by
    intro i v z next hv hi hneg
    unfold R_AtOf_l4 R_AtOf_j5
    rw [cnd_if, if_pos (by omega), hv, bnd_pure, cnd_if, if_pos hneg, gI_ok (by omega), bnd_pure]
  have far : ∀ (i : Nat) (v z : Int) (f : T_where_Fix) (next : Int × Int → Option (T_api_Place × Bool)), gAt ([x, y] : List Int) i = some v → i < 2 → 0 ≤ v → gAt t v = some f → 0 ≤ f.Moment ∧ f.Moment ≤ 6311433599 → g < max (f.Moment - m) (-(f.Moment - m)) → R_AtOf_l4 t m g x y next z i = next (z, (i : Int) + 1) := by
    intro i v z f next hv hi hneg hf hr hfar
    unfold R_AtOf_l4 R_AtOf_j5
    rw [cnd_if, if_pos (by omega), hv, bnd_pure, cnd_if, if_neg (by omega), hf, bnd_pure, gI_ok (by omega), bnd_pure, R_far_eq (by omega), bnd_pure, cnd_if, if_pos hfar, gI_ok (by omega), bnd_pure]
  have first : ∀ (i : Nat) (v z : Int) (f : T_where_Fix) (next : Int × Int → Option (T_api_Place × Bool)), gAt ([x, y] : List Int) i = some v → i < 2 → 0 ≤ v → gAt t v = some f → 0 ≤ f.Moment ∧ f.Moment ≤ 6311433599 → ¬ g < max (f.Moment - m) (-(f.Moment - m)) → z < 0 → R_AtOf_l4 t m g x y next z i = next (v, (i : Int) + 1) := by
    intro i v z f next hv hi hneg hf hr hfar hz
    unfold R_AtOf_l4 R_AtOf_j5
    rw [cnd_if, if_pos (by omega), hv, bnd_pure, cnd_if, if_neg (by omega), hf, bnd_pure, gI_ok (by omega), bnd_pure, R_far_eq (by omega), bnd_pure, cnd_if, if_neg hfar, cnd_if, if_pos hz, gI_ok (by omega), bnd_pure]
  have g0 : gAt ([x, y] : List Int) ((0 : Nat) : Int) = some x := rfl
  have g1 : gAt ([x, y] : List Int) ((1 : Nat) : Int) = some y := rfl
  have zero : (0 : Int) = ((0 : Nat) : Int) := rfl
  have step1 : ∀ z, (∀ next, R_AtOf_l4 t m g x y next (-1) ((0 : Nat) : Int) = next (z, ((0 : Nat) : Int) + 1)) → fix (fun next4 (s : Int × Int) => R_AtOf_l4 t m g x y next4 s.1 s.2) (-1, 0) = fix (fun next4 (s : Int × Int) => R_AtOf_l4 t m g x y next4 s.1 s.2) (z, ((1 : Nat) : Int)) := fun z h => fix_goto _ h
  have step2 : ∀ z z', (∀ next, R_AtOf_l4 t m g x y next z ((1 : Nat) : Int) = next (z', ((1 : Nat) : Int) + 1)) → fix (fun next4 (s : Int × Int) => R_AtOf_l4 t m g x y next4 s.1 s.2) (z, ((1 : Nat) : Int)) = R_AtOf_j3 t z' := fun z z' h => (fix_goto _ h).trans (d2 z')
  cases b with
  | none =>
    simp only at hx
    rw [step1 (-1) (fun next => skip 0 x (-1) next g0 (by omega) hx)]
    cases a with
    | none => simp only at hy; rw [step2 (-1) (-1) (fun next => skip 1 y (-1) next g1 (by omega) hy), none3 _ (by omega)]
    | some a =>
      simp only at hy
      obtain ⟨y0, ya, y1, y2⟩ := hy
      by_cases hg : a.Moment - m ≤ g
      · rw [step2 (-1) y (fun next => first 1 y (-1) a next g1 (by omega) y0 ya (by omega) (by omega) (by omega)), some3 y a y0 ya]; simp only; rw [if_pos hg]
      · rw [step2 (-1) (-1) (fun next => far 1 y (-1) a next g1 (by omega) y0 ya (by omega) (by omega)), none3 _ (by omega)]; simp only; rw [if_neg hg]
  | some b =>
    simp only at hx
    obtain ⟨x0, xb, x1, x2⟩ := hx
    by_cases hb : m - b.Moment ≤ g
    · rw [step1 x (fun next => first 0 x (-1) b next g0 (by omega) x0 xb (by omega) (by omega) (by omega))]
      cases a with
      | none => simp only at hy; rw [step2 x x (fun next => skip 1 y x next g1 (by omega) hy), some3 x b x0 xb]; simp only; rw [if_pos hb]
      | some a =>
        simp only at hy
        obtain ⟨y0, ya, y1, y2⟩ := hy
        by_cases hg : a.Moment - m ≤ g
        · have both : ∀ next, R_AtOf_l4 t m g x y next x ((1 : Nat) : Int) = if a.Moment - m < m - b.Moment then next (y, ((1 : Nat) : Int) + 1) else next (x, ((1 : Nat) : Int) + 1) := by
            intro next
            unfold R_AtOf_l4 R_AtOf_j5
            rw [cnd_if, if_pos (by omega), g1, bnd_pure, cnd_if, if_neg (by omega), ya, bnd_pure, gI_ok (by omega), bnd_pure, R_far_eq (by omega), bnd_pure, cnd_if, if_neg (by omega), cnd_if, if_neg (by omega), bnd_pure, gI_ok (by omega), bnd_pure, R_far_eq (by omega), bnd_pure, xb, bnd_pure, gI_ok (by omega), bnd_pure, R_far_eq (by omega), bnd_pure, cnd_if, gI_ok (by omega), bnd_pure, bnd_pure]
            rw [show max (a.Moment - m) (-(a.Moment - m)) = a.Moment - m from by omega, show max (b.Moment - m) (-(b.Moment - m)) = m - b.Moment from by omega]
          by_cases hc : a.Moment - m < m - b.Moment
          · rw [step2 x y (fun next => by rw [both, if_pos hc]), some3 y a y0 ya]; simp only; rw [if_neg (by omega), if_pos hg]
          · rw [step2 x x (fun next => by rw [both, if_neg hc]), some3 x b x0 xb]; simp only; rw [if_pos (by omega)]
        · rw [step2 x x (fun next => far 1 y x a next g1 (by omega) y0 ya (by omega) (by omega)), some3 x b x0 xb]; simp only; rw [if_pos (by omega)]
    · rw [step1 (-1) (fun next => far 0 x (-1) b next g0 (by omega) x0 xb (by omega) (by omega))]
      cases a with
      | none => simp only at hy; rw [step2 (-1) (-1) (fun next => skip 1 y (-1) next g1 (by omega) hy), none3 _ (by omega)]; simp only; rw [if_neg hb]
      | some a =>
        simp only at hy
        obtain ⟨y0, ya, y1, y2⟩ := hy
        by_cases hg : a.Moment - m ≤ g
        · rw [step2 (-1) y (fun next => first 1 y (-1) a next g1 (by omega) y0 ya (by omega) (by omega) (by omega)), some3 y a y0 ya]; simp only; rw [if_neg (by omega), if_pos hg]
        · rw [step2 (-1) (-1) (fun next => far 1 y (-1) a next g1 (by omega) y0 ya (by omega) (by omega)), none3 _ (by omega)]; simp only; rw [if_neg (by omega), if_neg hg]

theorem R_j1 {t : List T_where_Fix} (ht : TR t) {m g : Int} {x y : Int} (hm : 0 ≤ m ∧ m ≤ 6311433599) (b a : Option T_where_Fix)
    (hx : match b with | some b => 0 ≤ x ∧ gAt t x = some b ∧ (0 ≤ b.Moment ∧ b.Moment < m) ∧ PL b.Place | none => x < 0) (hy : match a with | some a => 0 ≤ y ∧ gAt t y = some a ∧ (m < a.Moment ∧ a.Moment ≤ 6311433599) ∧ PL a.Place | none => y < 0) :
    R_AtOf_j1 t m g x y = some (pick b a m g) := by
  have j2 := R_j2 (x := x) (y := y) (g := g) ht hm b a (by
    cases b with
    | none => exact hx
    | some b => exact ⟨hx.1, hx.2.1, hx.2.2.1⟩) (by
    cases a with
    | none => exact hy
    | some a => exact ⟨hy.1, hy.2.1, hy.2.2.1⟩)
  unfold pick2 at j2
  unfold R_AtOf_j1 pick
  cases b with
  | none => simp only at hx; rw [cnd_if, if_neg (by omega), j2]; cases a <;> rfl
  | some b =>
    simp only at hx
    cases a with
    | none => simp only at hy; rw [cnd_if, if_pos hx.1, cnd_if, if_neg (by omega), j2]
    | some a =>
      simp only at hy
      obtain ⟨x0, xb, ⟨x1, x2⟩, x3⟩ := hx
      obtain ⟨y0, ya, ⟨y1, y2⟩, y3⟩ := hy
      rw [cnd_if, if_pos x0, cnd_if, if_pos y0, ya, bnd_pure, xb, bnd_pure, gI_ok (by omega), bnd_pure, cnd_if]
      simp only
      by_cases h : a.Moment - b.Moment ≤ g
      · rw [if_pos h, if_pos h, bnd_pure, bnd_pure, gI_ok (by omega), bnd_pure, gI_ok (by omega), bnd_pure, R_between_eq x3 y3 (by omega) (by omega), bnd_pure]
      · rw [if_neg h, if_neg h, j2]

theorem R_At_eq {t : List T_where_Fix} (ht : TR t) {m g : Int} (hm : 0 ≤ m ∧ m ≤ 6311433599) : R_AtOf t m g = some (atS' t m g) := by
  have hl := ht.len
  have hle := ahead_le t m
  have hlt := fun i (h : i < ahead t m) (hi : i < t.length) => ahead_lt (t := t) h hi
  have hge := fun i (h : ahead t m ≤ i) (hi : i < t.length) => ahead_ge ht h hi
  unfold atS'
  generalize ahead t m = n at *
  unfold R_AtOf
  refine fix_of (F := fun next6 (s : Int × Int × Int) => R_AtOf_l6 t m g next6 s.1 s.2.1 s.2.2) (fun _ => some _)
    (fun s => (0 ≤ s.2.2 ∧ s.2.2 ≤ t.length) ∧ ((s.2.2 ≤ n ∧ s.1 = s.2.2 - 1 ∧ s.2.1 = -1) ∨ (n < s.2.2 ∧ s.1 = (n : Int) - 1 ∧ s.2.1 = n ∧ (t.getD n default).Moment ≠ m)))
    (fun s => t.length - s.2.2.toNat) ?_ (-1, -1, 0) ⟨by simp, .inl (by simp)⟩
  rintro next ⟨x, y, k'⟩ ⟨⟨h0, h1⟩, hI⟩ ih
  simp only at h0 h1 hI
  obtain ⟨k, rfl⟩ := Int.eq_ofNat_of_zero_le h0
  show R_AtOf_l6 t m g next x y k = _
  unfold R_AtOf_l6 R_AtOf_j7
  rw [cnd_if]
  by_cases hk : k < t.length
  · rw [if_pos (by omega), gAt_nat hk, bnd_pure, cnd_if, cnd_if, cnd_if]
    by_cases e0 : t[k].Moment = m
    · rw [if_pos e0]
      have hkn : k = n := by
        rcases Nat.lt_trichotomy k n with h | h | h
        · have := hlt k h hk; omega
        · exact h
        · have h2 := hge n (Nat.le_refl _) (by omega); have := ht.lt h hk; omega
      subst hkn
      rw [dif_pos ⟨hk, by rw [getD_of hk]; exact e0⟩, getD_of hk]
    · rw [if_neg e0]
      by_cases e1 : t[k].Moment < m
      · have hkn : k < n := by
          rcases Nat.lt_or_ge k n with h | h
          · exact h
          · have := hge k h hk; omega
        rw [if_pos e1, gI_ok (by omega), bnd_pure]
        exact ih ((k : Int), y, (k : Int) + 1) ⟨by simp only; omega, .inl (by simp only; omega)⟩ (by simp only; omega)
      · have hkn : n ≤ k := by
          rcases Nat.lt_or_ge k n with h | h
          · have := hlt k h hk; omega
          · exact h
        rw [if_neg e1]
        rcases Nat.lt_or_ge n k with h | h
        · rw [if_neg (by omega), gI_ok (by omega), bnd_pure]
          exact ih (x, y, (k : Int) + 1) ⟨by simp only; omega, .inr ⟨by simp only; omega, by simp only; omega, by simp only; omega, by rcases hI with hI | hI; omega; exact hI.2.2.2⟩⟩ (by simp only; omega)
        · have hkn : k = n := by omega
          subst hkn
          rw [if_pos (by omega), gI_ok (by omega), bnd_pure]
          exact ih (x, (k : Int), (k : Int) + 1) ⟨by simp only; omega, .inr ⟨by simp only; omega, by simp only; omega, by simp only, by rw [getD_of hk]; exact e0⟩⟩ (by simp only; omega)
  · rw [if_neg (by omega)]
    have hb : match (if 0 < n then some (t.getD (n - 1) default) else none) with | some b => 0 ≤ x ∧ gAt t x = some b ∧ (0 ≤ b.Moment ∧ b.Moment < m) ∧ PL b.Place | none => x < 0 := by
      by_cases h : 0 < n
      · have hn1 : n - 1 < t.length := by omega
        rw [if_pos h]
        simp only
        rw [show x = ((n - 1 : Nat) : Int) from by omega, gAt_nat hn1, getD_of hn1]
        exact ⟨by omega, rfl, ⟨(ht.mom _ hn1).1, hlt _ (by omega) hn1⟩, ht.pl _ hn1⟩
      · rw [if_neg h]; simp only; omega
    have ha : match (if n < t.length then some (t.getD n default) else none) with | some a => 0 ≤ y ∧ gAt t y = some a ∧ (m < a.Moment ∧ a.Moment ≤ 6311433599) ∧ PL a.Place | none => y < 0 := by
      by_cases h : n < t.length
      · rw [if_pos h]
        simp only
        have hI' := hI.resolve_left (by omega)
        have hne := hI'.2.2.2
        rw [getD_of h] at hne
        rw [show y = (n : Int) from by omega, gAt_nat h, getD_of h]
        have := hge n (Nat.le_refl _) h
        exact ⟨by omega, rfl, ⟨by omega, (ht.mom _ h).2⟩, ht.pl _ h⟩
      · rw [if_neg h]; simp only; omega
    rw [R_j1 ht hm _ _ hb ha, dif_neg]
    rintro ⟨h2, h3⟩
    rcases hI with hI | hI
    · omega
    · exact hI.2.2.2 h3

/-! ### lengths -/

def lenGo (t : List T_where_Fix) : Nat → Nat → Int
  | 0, _ => 0
  | m + 1, k => distP (t.getD (k - 1) default).Place (t.getD k default).Place + lenGo t m (k + 1)
def lenS (t : List T_where_Fix) : Int := lenGo t (t.length - 1) 1

theorem Length_go {t : List T_where_Fix} (ht : TR t) {ρ : Type} (F : (Int × Int → Option ρ) → Int × Int → Option ρ) (res : Int → ρ)
    (more : ∀ next (s : Int) (k : Nat), 1 ≤ k → (hk : k < t.length) → 0 ≤ s ∧ s ≤ 100000000000 → F next (s, (k : Int)) = next (s + distP t[k - 1].Place t[k].Place, (k : Int) + 1))
    (stop : ∀ next (s : Int) (k : Nat), t.length ≤ k → F next (s, (k : Int)) = some (res s)) : fix F (0, 1) = some (res (lenS t)) := by
  have hl := ht.len
  have key := fix_of (F := F) (fun s => some (res (s.1 + lenGo t (t.length - s.2.toNat) s.2.toNat))) (fun s => 1 ≤ s.2 ∧ s.2 ≤ 1 + t.length ∧ 0 ≤ s.1 ∧ s.1 ≤ 28400000 * s.2) (fun s => t.length - s.2.toNat) (by
    rintro next ⟨s, k'⟩ ⟨h0, h1, h2, h3⟩ ih
    simp only at h0 h1 h2 h3
    obtain ⟨k, rfl⟩ := Int.eq_ofNat_of_zero_le (show 0 ≤ k' by omega)
    simp only [Int.toNat_natCast]
    by_cases hk : k < t.length
    · have hd := dist_bd (ht.pl (k - 1) (by omega)) (ht.pl k hk)
      rw [more next s k (by omega) hk (by omega), ih (s + distP t[k - 1].Place t[k].Place, (k : Int) + 1) ⟨by simp only; omega, by simp only; omega, by simp only; omega, by simp only; omega⟩ (by simp only; omega)]
      simp only
      rw [show ((k : Int) + 1).toNat = k + 1 from by omega, show t.length - k = (t.length - (k + 1)) + 1 from by omega]
      simp only [lenGo]
      rw [getD_of (by omega : k - 1 < t.length), getD_of hk, Int.add_assoc]
    · rw [stop next s k (by omega), show t.length - k = 0 from by omega]
      simp only [lenGo, Int.add_zero]) (0, 1) ⟨by simp, by simp; omega, by simp, by simp⟩
  rw [key]
  show some (res (0 + lenGo t (t.length - 1) 1)) = some (res (lenGo t (t.length - 1) 1))
  rw [Int.zero_add]

/-! ### the law -/

end Go.M
