/- The law WhereLists in plain Lean. Conditions: none. -/
import Derived.Test.YtinpjnlocahjjaaWLi
namespace Go.M
open Go.Md Go.Pl Go.Vc.Where

theorem groupsG_bd {l : List T_api_Place} {m : Int} : ∀ (f i : Nat) (seen : List Bool) (out : List (List Int)), i + f = l.length → seen.length = l.length → out.length ≤ i → (∀ g ∈ out, g.length ≤ l.length) →
    (groupsG l m f i seen out).length ≤ l.length ∧ ∀ g ∈ groupsG l m f i seen out, g.length ≤ l.length
  | 0, i, seen, out, hi, _, ho, hg => ⟨by show out.length ≤ _; omega, hg⟩
  | f + 1, i, seen, out, hi, hs, ho, hg => by
    unfold groupsG
    by_cases h : seen.getD i true = true
    · rw [if_pos h]
      exact groupsG_bd f (i + 1) seen out (by omega) hs (by omega) hg
    · rw [if_neg h]
      have hf : seen.getD i true = false := by simpa using h
      have hk := growG_ok (m := m) (l.length + 1) 0 _ (first_ok hs (by omega) hf)
      refine groupsG_bd f (i + 1) _ _ (by omega) hk.len (by simp only [List.length_append, List.length_cons, List.length_nil]; omega) fun g hg' => ?_
      rcases List.mem_append.1 hg' with h' | h'
      · exact hg g h'
      · have : g = sortL (growG l m (l.length + 1) 0 (seen.set i true, [(i : Int)])).2 := by simpa using h'
        rw [this]
        unfold sortL
        rw [List.length_mergeSort]
        exact hk.le

/-! ### the nearest -/

noncomputable def nearG (l : List T_api_Place) (p : T_api_Place) : Nat → Nat → Int → Int → Int × Int
  | 0, _, b, e => (b, e)
  | f + 1, i, b, e => if i = 0 ∨ distP p (l.getD i default) < e then nearG l p f (i + 1) i (distP p (l.getD i default)) else nearG l p f (i + 1) b e

theorem near0 {l : List T_api_Place} {p : T_api_Place} {f : Nat} (h : 0 < f) (b b' e e' : Int) : nearG l p f 0 b e = nearG l p f 0 b' e' := by
  cases f with
  | zero => omega
  | succ f => unfold nearG; rw [if_pos (.inl rfl), if_pos (.inl rfl)]

theorem near_go {ρ : Type} {F : (Int × Int × Int → Option ρ) → Int × Int × Int → Option ρ} (res : Int → Int → Option ρ) (e0 : Int) {l : List T_api_Place} (hl : PS l) {p : T_api_Place} (hp : PL p)
    (more : ∀ next (i : Nat) (b e : Int), i < l.length → (i = 0 → e = e0) → (0 < i → 0 ≤ e) → F next (b, e, (i : Int)) = if i = 0 ∨ distP p (l.getD i default) < e then next ((i : Int), distP p (l.getD i default), (i : Int) + 1) else next (b, e, (i : Int) + 1))
    (stop : ∀ next (i : Nat) (b e : Int), l.length ≤ i → F next (b, e, (i : Int)) = res b e) :
    ∀ (f i : Nat) (b e : Int), i + f = l.length → (i = 0 → e = e0) → (0 < i → 0 ≤ e) → fix F (b, e, (i : Int)) = res (nearG l p f i b e).1 (nearG l p f i b e).2
  | 0, i, b, e, hi, _, _ => fix_done fun next => stop next i b e (by omega)
  | f + 1, i, b, e, hi, h0, h1 => by
    unfold nearG
    have h := fun next => more next i b e (by omega) h0 h1
    have hd := dist_bd hp (hl.pl i (by omega))
    by_cases hc : i = 0 ∨ distP p (l.getD i default) < e
    · rw [if_pos hc]
      exact (fix_goto _ fun next => (h next).trans (if_pos hc)).trans (near_go res e0 hl hp more stop f (i + 1) _ _ (by omega) (by omega) (fun _ => by rw [getD_of (by omega : i < l.length)]; exact hd.1))
    · rw [if_neg hc]
      exact (fix_goto _ fun next => (h next).trans (if_neg hc)).trans (near_go res e0 hl hp more stop f (i + 1) _ _ (by omega) (by omega) (fun _ => h1 (by omega)))

theorem near_eq {l : List T_api_Place} (hl : PS l) {p : T_api_Place} (hp : PL p) : fix (fun next2 s => where_Nearest_l2 l p next2 s.1 s.2.1 s.2.2) (0, -1, 0) = some ((nearG l p l.length 0 0 (-1)).1, (nearG l p l.length 0 0 (-1)).2, 0) := by
  have hlen := hl.len
  refine near_go (F := fun next2 s => where_Nearest_l2 l p next2 s.1 s.2.1 s.2.2) (fun b e => some (b, e, 0)) (-1) hl hp ?_ ?_ l.length 0 0 (-1) (by omega) (fun _ => rfl) (by omega)
  · intro next i b e hi h0 h1
    show where_Nearest_l2 l p next b e i = _
    unfold where_Nearest_l2 where_Nearest_j3
    rw [cnd_if, if_pos (by omega), gAt_nat hi, bnd_pure, dist_eq hp (hl.pl i hi), bnd_pure, cnd_if, cnd_if, gI_ok (by omega), bnd_pure, bnd_pure, getD_of hi]
    by_cases hz : i = 0
    · have := h0 hz
      rw [if_pos (by omega), if_pos (.inl hz)]
    · have := h1 (by omega)
      rw [if_neg (by omega)]
      by_cases h2 : distP p l[i] < e
      · rw [if_pos h2, if_pos (.inr h2)]
      · rw [if_neg h2, if_neg (fun h => h.elim hz h2)]
  · intro next i b e hi
    show where_Nearest_l2 l p next b e i = _
    unfold where_Nearest_l2 where_Nearest_j1
    rw [cnd_if, if_neg (by omega)]

/-! ### faults -/

def faultL (l : List T_api_Place) (b : Bool) : Int := if b = true ∧ l.length = 0 then 7 else listE l

theorem first2 (x c : Int) : firstS [x, c] = if x = 0 then c else x := by
  by_cases hx : x = 0 <;> by_cases hc : c = 0 <;> simp [firstS, hx, hc]

theorem listFault_eq (l : List T_api_Place) (hl : l.length ≤ 1000000000000000) (b : Bool) : Law_listFault l b = some (faultL l b) := by
  have key : ∀ (f n : Nat) (x : Int), n + f = l.length → fix (fun next2 s => Law_listFault_l2 l next2 s.1 s.2) (x, (n : Int)) = some (if x = 0 then firstE (fun k => placeS (l.getD k default).Lat (l.getD k default).Lon) f n else x) := by
    intro f
    induction f with
    | zero =>
      intro n x hn
      refine fix_done fun next => ?_
      show Law_listFault_l2 l next x n = _
      unfold Law_listFault_l2
      rw [cnd_if, if_neg (by omega)]
      simp only [firstE]
      split
      · rename_i h; rw [h]
      · rfl
    | succ f ih =>
      intro n x hn
      have hlt : n < l.length := by omega
      refine (fix_goto (firstS [x, placeS l[n].Lat l[n].Lon], (n : Int) + 1) fun next => ?_).trans ((ih (n + 1) _ (by omega)).trans ?_)
      · show Law_listFault_l2 l next x n = _
        unfold Law_listFault_l2
        rw [cnd_if, if_pos (by omega), gAt_nat hlt, bnd_pure, R_PlaceFault_eq, bnd_pure, Law_first_eq _ (by simp), bnd_pure, gI_ok (by omega), bnd_pure]
      · rw [first2]
        simp only [firstE]
        rw [getD_of hlt]
        by_cases hx : x = 0
        · simp only [hx, if_true]
        · simp only [hx, if_false]
  have j1 : ∀ x, Law_listFault_j1 l x = some (if x = 0 then firstE (fun k => placeS (l.getD k default).Lat (l.getD k default).Lon) l.length 0 else x) := fun x => by
    unfold Law_listFault_j1
    exact key l.length 0 x (by omega)
  unfold Law_listFault faultL listE
  simp only [unless_eq, bnd_pure, Law_first_eq _ (show ([_, _] : List Int).length ≤ 1000000 by simp), j1, cnd_if, firstS, decide_eq_true_eq]
  by_cases h0 : l.length = 0
  · have hnil : l = [] := List.eq_nil_of_length_eq_zero h0
    subst hnil
    cases b <;> simp [firstE]
  · have hn : ¬ (b = true ∧ l.length = 0) := fun h => h0 h.2
    rw [if_pos (show 0 < (l.length : Int) by omega), if_neg hn]
    by_cases h1 : (l.length : Int) ≤ 1000
    · rw [if_neg (show ¬ (1000 : Int) < l.length by omega)]
      simp [h1]
    · rw [if_pos (show (1000 : Int) < l.length by omega)]
      simp [h1]

theorem equal_ints (l : List Int) (hl : l.length ≤ 1000000000000000000) : slices_Equal_int l l = some true := by
  unfold slices_Equal_int
  rw [cnd_if, if_neg (fun h => h rfl)]
  refine (up (F := fun next1 s => slices_Equal_int_l1 l l next1 s) l.length (fun _ => some true) fun next k hk ih => ?_)
  show slices_Equal_int_l1 l l next (k : Int) = _
  unfold slices_Equal_int_l1
  rw [cnd_if]
  by_cases h : k < l.length
  · rw [if_pos (by omega), gAt_nat h, bnd_pure, bnd_pure, cnd_if, if_neg (fun h => h rfl), gI_ok (by omega), bnd_pure, ih h]
  · rw [if_neg (by omega)]

theorem equal_lists (l : List (List Int)) (hl : l.length ≤ 1000000000000000000) (hg : ∀ g ∈ l, g.length ≤ 1000000000000000000) : slices_EqualFunc_int_int_int_int l l slices_Equal_int = some true := by
  unfold slices_EqualFunc_int_int_int_int
  rw [cnd_if, if_neg (fun h => h rfl)]
  refine (up (F := fun next1 s => slices_EqualFunc_int_int_int_int_l1 l l slices_Equal_int next1 s) l.length (fun _ => some true) fun next k hk ih => ?_)
  show slices_EqualFunc_int_int_int_int_l1 l l slices_Equal_int next (k : Int) = _
  unfold slices_EqualFunc_int_int_int_int_l1
  rw [cnd_if]
  by_cases h : k < l.length
  · rw [if_pos (by omega), gAt_nat h, bnd_pure, bnd_pure, equal_ints _ (hg _ (List.getElem_mem h)), bnd_pure, Bool.not_true, cnd_false, gI_ok (by omega), bnd_pure, ih h]
  · rw [if_neg (by omega)]

theorem lists_ok {a c : List (List Int)} {b d : Int} (h : a = (if d = 0 then c else [])) (hb : b = d) (hl : a.length ≤ 1000) (hg : ∀ g ∈ a, g.length ≤ 1000) : Law_lists_int a b c d = some true := by
  subst hb
  have he := equal_lists a (by omega) (fun g hx => by have := hg g hx; omega)
  unfold Law_lists_int Law_lists_int_j1
  rw [cnd_if]
  by_cases h0 : b = 0
  · rw [if_pos h0] at h
    rw [if_neg (fun hh => hh h0), ← h, he, bnd_pure, cnd_true]; simp
  · rw [if_neg h0] at h
    rw [if_pos h0, ← h, he, bnd_pure, cnd_true]; simp

theorem Groups_eq (l : List T_api_Place) (m : Int) : where_Groups l m = some (if firstS [listE l, metresS m] = 0 then groupsS l m else [], firstS [listE l, metresS m]) := by
  unfold where_Groups
  rw [checkList_eq, bnd_pure, cnd_if, first2]
  by_cases h : listE l = 0
  · have hl := list_ok h
    have hlen := hl.len
    rw [if_neg (fun hh => hh h), outside_eq, bnd_pure, cnd_if]
    simp only [h, if_true]
    unfold metresS
    by_cases hm : 0 ≤ m ∧ m ≤ 30000000
    · rw [if_neg (by omega), if_pos hm, if_pos rfl, gMake_ok (by omega), bnd_pure, Int.toNat_natCast, Groups_ok hl]
    · rw [if_pos (by omega), if_neg hm, if_neg (by decide)]
  · simp only [h, if_false, ne_eq, not_false_eq_true, if_true]

theorem Middle_eq (l : List T_api_Place) : where_Middle l = some (if faultL l true = 0 then midS l else 0, faultL l true) := by
  unfold where_Middle
  by_cases h0 : l.length = 0
  · have e : faultL l true = 7 := if_pos ⟨rfl, h0⟩
    rw [cnd_if, if_pos (show (l.length : Int) = 0 by omega), e, if_neg (by decide)]
  · have e : faultL l true = listE l := if_neg (fun h => h0 h.2)
    rw [cnd_if, if_neg (show ¬ (l.length : Int) = 0 by omega), checkList_eq, bnd_pure, cnd_if, e]
    by_cases h : listE l = 0
    · rw [if_neg (show ¬ listE l ≠ 0 from fun hh => hh h), middle_eq (list_ok h), bnd_pure, if_pos h, h]
    · rw [if_pos h, if_neg h]

theorem firstE_cons (p : T_api_Place) (l : List T_api_Place) : firstE (fun k => placeS ((p :: l).getD k default).Lat ((p :: l).getD k default).Lon) (p :: l).length 0 = if placeS p.Lat p.Lon = 0 then firstE (fun k => placeS (l.getD k default).Lat (l.getD k default).Lon) l.length 0 else placeS p.Lat p.Lon := by
  have sh : ∀ m k, firstE (fun k => placeS ((p :: l).getD k default).Lat ((p :: l).getD k default).Lon) m (k + 1) = firstE (fun k => placeS (l.getD k default).Lat (l.getD k default).Lon) m k := by
    intro m
    induction m with
    | zero => intro k; rfl
    | succ m ih => intro k; simp only [firstE]; rw [ih]; rfl
  show (if placeS p.Lat p.Lon = 0 then firstE (fun k => placeS ((p :: l).getD k default).Lat ((p :: l).getD k default).Lon) l.length (0 + 1) else placeS p.Lat p.Lon) = _
  rw [sh]

def f3S (l : List T_api_Place) (p : T_api_Place) : Int := firstS [if 0 < l.length then 0 else 7, if l.length ≤ 1000 then 0 else 4, placeS p.Lat p.Lon, faultL l true]

theorem f3_zero {l : List T_api_Place} {p : T_api_Place} (h : f3S l p = 0) : 0 < l.length ∧ PS l ∧ PL p := by
  unfold f3S at h
  by_cases h0 : 0 < l.length
  · by_cases h1 : l.length ≤ 1000
    · by_cases h2 : placeS p.Lat p.Lon = 0
      · by_cases h3 : listE l = 0
        · exact ⟨h0, list_ok h3, PL_iff.1 h2⟩
        · simp [firstS, h0, h1, h2, faultL, show ¬ l.length = 0 by omega, h3] at h
          all_goals omega
      · simp [firstS, h0, h1, h2] at h
    · simp [firstS, h0, h1] at h
  · simp [firstS, h0] at h

theorem Nearest_eq (l : List T_api_Place) (p : T_api_Place) : where_Nearest l p = some (if f3S l p = 0 then (nearG l p l.length 0 0 0).1 else 0, if f3S l p = 0 then (nearG l p l.length 0 0 0).2 else 0, f3S l p) := by
  unfold where_Nearest
  rw [cnd_if, cnd_if]
  by_cases h0 : l.length = 0
  · rw [if_pos (by omega)]
    have : f3S l p = 7 := by unfold f3S; simp [firstS, h0]
    rw [this, if_neg (by decide), if_neg (by decide)]
  rw [if_neg (by omega)]
  by_cases h1 : l.length ≤ 1000
  · rw [if_neg (by omega), gApp_ok (by simp only [List.length_cons, List.length_nil]; omega), bnd_pure, List.singleton_append, checkPlaces_eq _ (by simp only [List.length_cons]; omega), bnd_pure, cnd_if, firstE_cons]
    have hf : f3S l p = if placeS p.Lat p.Lon = 0 then firstE (fun k => placeS (l.getD k default).Lat (l.getD k default).Lon) l.length 0 else placeS p.Lat p.Lon := by
      unfold f3S faultL listE
      rw [if_pos (by omega), if_pos h1, if_neg (fun h => h0 h.2), if_neg (by omega)]
      show firstS [placeS p.Lat p.Lon, _] = _
      rw [first2]
    rw [← hf]
    by_cases hz : f3S l p = 0
    · obtain ⟨g0, g1, g2⟩ := f3_zero hz
      rw [if_neg (fun h => h hz), near_eq g1 g2, near0 g0 0 0 (-1) 0, if_pos hz, if_pos hz, hz]
    · rw [if_pos hz, if_neg hz, if_neg hz]
  · rw [if_pos (by omega)]
    have : f3S l p = 4 := by unfold f3S; simp [firstS, h1, show 0 < l.length by omega]
    rw [this, if_neg (by decide), if_neg (by decide)]

end Go.M
