/- The references of WhereLists. Conditions: none. -/
import Derived.Test.YtinpjnlocahjjaaWLh
namespace Go.M
open Go.Md Go.Pl Go.Vc.Where

theorem RGroups_k {l : List T_api_Place} (hl : PS l) {m i : Int} {out : List (List Int)} (next2 : Int × List Bool × List (List Int) → Option (List (List Int))) {s0 : List Bool × List Int} (h0 : OKG l s0) :
    fix (fun next5 s => R_GroupsOf_l4 l m i out next2 next5 s.1 s.2.1 s.2.2) (0, s0.1, s0.2) = R_GroupsOf_j3 i out next2 (growG l m (l.length + 1) 0 s0).1 (growG l m (l.length + 1) 0 s0).2 := by
  have hlen := hl.len
  refine grow_go (F := fun next5 s => R_GroupsOf_l4 l m i out next2 next5 s.1 s.2.1 s.2.2) (fun s => R_GroupsOf_j3 i out next2 s.1 s.2) (m := m) ?_ ?_ (l.length + 1) 0 s0 (by omega) h0
  · intro next k s hk hs
    show R_GroupsOf_l4 l m i out next2 next k s.1 s.2 = _
    unfold R_GroupsOf_l4
    have hle := hs.le
    rw [cnd_if, if_pos (by omega)]
    have hq := hs.mem _ (List.getElem_mem hk)
    obtain ⟨q, hqe⟩ := Int.eq_ofNat_of_zero_le hq.1
    have hql : q < l.length := by omega
    rw [getD_i hk, hqe, Int.toNat_natCast, getD_of hql]
    refine inner_go (F := fun next7 s => R_GroupsOf_l6 l m k next next7 s.1 s.2.1 s.2.2) (fun s => next ((k : Int) + 1, s.1, s.2)) (k := k) (q := (q : Int)) ?_ ?_ l.length 0 s (by omega) hs ⟨hk, hqe⟩
    · intro nx n s' hn hs' hq'
      show R_GroupsOf_l6 l m k next nx n s'.1 s'.2 = _
      have hn' : n < s'.1.length := by rw [hs'.len]; exact hn
      have hle' := hs'.le
      unfold R_GroupsOf_l6 R_GroupsOf_j7 stepG
      rw [cnd_if, if_pos (by omega), gAt_nat hn', bnd_pure, getD_b hn', getD_of hn]
      cases hb : s'.1[n] with
      | true => rw [Bool.not_true, cnd_false, gI_ok (by omega), bnd_pure, if_neg (fun h => by cases h.1)]
      | false =>
        rw [Bool.not_false, cnd_true, hq', bnd_pure, gAt_nat hql, bnd_pure, gAt_nat hn, bnd_pure, R_dist_eq (hl.pl _ hql) (hl.pl _ hn), bnd_pure, cnd_if]
        by_cases hd : distP l[q] l[n] ≤ m
        · rw [if_pos hd, if_pos ⟨rfl, hd⟩, bnd_pure, gSet_ok (by omega) (by omega), bnd_pure, gApp_ok (by simp only [List.length_cons, List.length_nil]; omega), bnd_pure, gI_ok (by omega), bnd_pure, Int.toNat_natCast]
        · rw [if_neg hd, if_neg (fun h => hd h.2), gI_ok (by omega), bnd_pure]
    · intro nx n s' hn
      show R_GroupsOf_l6 l m k next nx n s'.1 s'.2 = _
      unfold R_GroupsOf_l6 R_GroupsOf_j5
      rw [cnd_if, if_neg (by omega), gI_ok (by omega), bnd_pure]
  · intro next k s hk
    show R_GroupsOf_l4 l m i out next2 next k s.1 s.2 = _
    unfold R_GroupsOf_l4
    rw [cnd_if, if_neg (by omega)]

theorem RGroups_ok {l : List T_api_Place} (hl : PS l) {m : Int} : fix (fun next2 s => R_GroupsOf_l1 l m next2 s.1 s.2.1 s.2.2) (0, List.replicate l.length false, ([] : List (List Int))) = some (groupsS l m) := by
  have hlen := hl.len
  refine groups_go (F := fun next2 s => R_GroupsOf_l1 l m next2 s.1 s.2.1 s.2.2) (fun out => some out) (l := l) (m := m) ?_ ?_ ?_ l.length 0 _ _ (by omega) (by simp) (by simp)
  · intro next i seen out hi hs hb
    show R_GroupsOf_l1 l m next i seen out = _
    have hi' : i < seen.length := by omega
    rw [getD_b hi'] at hb
    unfold R_GroupsOf_l1 R_GroupsOf_j2
    rw [cnd_if, if_pos (by omega), gAt_nat hi', bnd_pure, hb, cnd_true, gI_ok (by omega), bnd_pure]
  · intro next i seen out hi hs ho hb
    show R_GroupsOf_l1 l m next i seen out = _
    have hi' : i < seen.length := by omega
    have hok := first_ok hs hi hb
    rw [getD_b hi'] at hb
    unfold R_GroupsOf_l1
    rw [cnd_if, if_pos (by omega), gAt_nat hi', bnd_pure, hb, cnd_false, bnd_pure, gSet_ok (by omega) (by omega), bnd_pure, Int.toNat_natCast]
    refine (RGroups_k hl next hok).trans ?_
    have hg := growG_ok (m := m) (l.length + 1) 0 _ hok
    unfold R_GroupsOf_j3 R_GroupsOf_j2
    rw [sortL_eq hl hg, bnd_pure, gApp_ok (by simp only [List.length_cons, List.length_nil]; omega), bnd_pure, gI_ok (by omega), bnd_pure]
  · intro next i seen out hi
    show R_GroupsOf_l1 l m next i seen out = _
    unfold R_GroupsOf_l1
    rw [cnd_if, if_neg (by omega)]


/-! ### the middle, the nearest -/

noncomputable def sumG (l : List T_api_Place) (p : T_api_Place) : Nat → Nat → Int → Int
  | 0, _, a => a
  | f + 1, n, a => sumG l p f (n + 1) (a + distP p (l.getD n default))

theorem sum_go {ρ : Type} {F : (Int × Int → Option ρ) → Int × Int → Option ρ} (res : Int → Option ρ) {l : List T_api_Place} (hl : PS l) {p : T_api_Place} (hp : PL p)
    (more : ∀ next (n : Nat) (a : Int), n < l.length → 0 ≤ a ∧ a ≤ 28400000 * n → F next (a, (n : Int)) = next (a + distP p (l.getD n default), (n : Int) + 1))
    (stop : ∀ next (n : Nat) (a : Int), l.length ≤ n → F next (a, (n : Int)) = res a) :
    ∀ (f n : Nat) (a : Int), n + f = l.length → 0 ≤ a ∧ a ≤ 28400000 * n → fix F (a, (n : Int)) = res (sumG l p f n a)
  | 0, n, a, hn, _ => fix_done fun next => stop next n a (by omega)
  | f + 1, n, a, hn, ha => by
    have hn' : n < l.length := by omega
    have hd := dist_bd hp (hl.pl n hn')
    refine (fix_goto _ fun next => more next n a hn' ha).trans (sum_go res hl hp more stop f (n + 1) _ (by omega) ?_)
    rw [getD_of hn']
    omega

noncomputable def midG (l : List T_api_Place) : Nat → Nat → Int → Int → Int
  | 0, _, b, _ => b
  | f + 1, i, b, e => if e < 0 ∨ sumG l (l.getD i default) l.length 0 0 < e then midG l f (i + 1) i (sumG l (l.getD i default) l.length 0 0) else midG l f (i + 1) b e
noncomputable def midS (l : List T_api_Place) : Int := midG l l.length 0 0 (-1)

theorem mid_go {F : (Int × Int × Int → Option Int) → Int × Int × Int → Option Int} {l : List T_api_Place}
    (more : ∀ next (i : Nat) (b e : Int), i < l.length → F next (b, e, (i : Int)) = if e < 0 ∨ sumG l (l.getD i default) l.length 0 0 < e then next ((i : Int), sumG l (l.getD i default) l.length 0 0, (i : Int) + 1) else next (b, e, (i : Int) + 1))
    (stop : ∀ next (i : Nat) (b e : Int), l.length ≤ i → F next (b, e, (i : Int)) = some b) :
    ∀ (f i : Nat) (b e : Int), i + f = l.length → fix F (b, e, (i : Int)) = some (midG l f i b e)
  | 0, i, b, e, hi => fix_done fun next => stop next i b e (by omega)
  | f + 1, i, b, e, hi => by
    unfold midG
    have h := fun next => more next i b e (by omega)
    by_cases hc : e < 0 ∨ sumG l (l.getD i default) l.length 0 0 < e
    · rw [if_pos hc]
      exact (fix_goto _ fun next => (h next).trans (if_pos hc)).trans (mid_go more stop f (i + 1) _ _ (by omega))
    · rw [if_neg hc]
      exact (fix_goto _ fun next => (h next).trans (if_neg hc)).trans (mid_go more stop f (i + 1) _ _ (by omega))

theorem middle_eq {l : List T_api_Place} (hl : PS l) : where_middle l = some (midS l) := by
  have hlen := hl.len
  unfold where_middle midS
  refine mid_go (F := fun next1 s => where_middle_l1 l next1 s.1 s.2.1 s.2.2) ?_ ?_ l.length 0 0 (-1) (by omega)
  · intro next i b e hi
    show where_middle_l1 l next b e i = _
    unfold where_middle_l1
    rw [cnd_if, if_pos (by omega), gAt_nat hi, bnd_pure, getD_of hi]
    refine (sum_go (F := fun next4 s => where_middle_l4 l b e i next l[i] next4 s.1 s.2) (fun a => where_middle_j3 b e i next a) hl (hl.pl i hi) ?_ ?_ l.length 0 0 (by omega) (by omega)).trans ?_
    · intro nx n a hn ha
      show where_middle_l4 l b e i next l[i] nx a n = _
      have hd := dist_bd (hl.pl i hi) (hl.pl n hn)
      unfold where_middle_l4
      rw [cnd_if, if_pos (by omega), gAt_nat hn, bnd_pure, dist_eq (hl.pl i hi) (hl.pl n hn), bnd_pure, gI_ok (by omega), bnd_pure, gI_ok (by omega), bnd_pure, getD_of hn]
    · intro nx n a hn
      show where_middle_l4 l b e i next l[i] nx a n = _
      unfold where_middle_l4
      rw [cnd_if, if_neg (by omega)]
    · unfold where_middle_j3 where_middle_j2
      rw [cnd_if, cnd_if, gI_ok (by omega), bnd_pure, bnd_pure]
      by_cases h1 : e < 0
      · rw [if_pos h1, if_pos (.inl h1)]
      · rw [if_neg h1]
        by_cases h2 : sumG l l[i] l.length 0 0 < e
        · rw [if_pos h2, if_pos (.inr h2)]
        · rw [if_neg h2, if_neg (fun h => h.elim h1 h2)]
  · intro next i b e hi
    show where_middle_l1 l next b e i = _
    unfold where_middle_l1
    rw [cnd_if, if_neg (by omega)]

theorem R_middle_eq {l : List T_api_Place} (hl : PS l) : R_MiddleOf l = some (midS l) := by
  have hlen := hl.len
  unfold R_MiddleOf midS
  refine mid_go (F := fun next1 s => R_MiddleOf_l1 l next1 s.1 s.2.1 s.2.2) ?_ ?_ l.length 0 0 (-1) (by omega)
  · intro next i b e hi
    show R_MiddleOf_l1 l next b e i = _
    unfold R_MiddleOf_l1
    rw [cnd_if, if_pos (by omega), gAt_nat hi, bnd_pure, getD_of hi]
    refine (sum_go (F := fun next4 s => R_MiddleOf_l4 l b e i next l[i] next4 s.1 s.2) (fun a => R_MiddleOf_j3 b e i next a) hl (hl.pl i hi) ?_ ?_ l.length 0 0 (by omega) (by omega)).trans ?_
    · intro nx n a hn ha
      show R_MiddleOf_l4 l b e i next l[i] nx a n = _
      have hd := dist_bd (hl.pl i hi) (hl.pl n hn)
      unfold R_MiddleOf_l4
      rw [cnd_if, if_pos (by omega), gAt_nat hn, bnd_pure, R_dist_eq (hl.pl i hi) (hl.pl n hn), bnd_pure, gI_ok (by omega), bnd_pure, gI_ok (by omega), bnd_pure, getD_of hn]
    · intro nx n a hn
      show R_MiddleOf_l4 l b e i next l[i] nx a n = _
      unfold R_MiddleOf_l4
      rw [cnd_if, if_neg (by omega)]
    · unfold R_MiddleOf_j3 R_MiddleOf_j2
      rw [cnd_if, cnd_if, gI_ok (by omega), bnd_pure, bnd_pure]
      by_cases h1 : e < 0
      · rw [if_pos h1, if_pos (.inl h1)]
      · rw [if_neg h1]
        by_cases h2 : sumG l l[i] l.length 0 0 < e
        · rw [if_pos h2, if_pos (.inr h2)]
        · rw [if_neg h2, if_neg (fun h => h.elim h1 h2)]
  · intro next i b e hi
    show R_MiddleOf_l1 l next b e i = _
    unfold R_MiddleOf_l1
    rw [cnd_if, if_neg (by omega)]

end Go.M
