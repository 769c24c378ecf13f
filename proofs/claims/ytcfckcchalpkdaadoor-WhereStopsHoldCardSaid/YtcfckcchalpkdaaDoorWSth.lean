/- The law WhereStopsHold in plain Lean: stops are in order, do not overlap, and are as long as told. Conditions: none. -/
import Derived.Test.YtcfckcchalpkdaaDoorWD
namespace Go.M
open Go.Md Go.Pl Go.Vc.Where

def sumW (p : T_api_Place) (l : List T_api_Place) : Int := l.foldl (fun s q => s + distP p q) 0

theorem mid_sumW (l : List T_api_Place) (hl : ∀ p ∈ l, PL p) (hn : l.length ≤ 2000) (x3 x4 k : Int) (next1 : Int × Int × Int → Option Int) (p : T_api_Place) (hp : PL p) :
    fix (fun next4 (s : Int × Int) => where_middle_l4 l x3 x4 k next1 p next4 s.1 s.2) (0, 0) = where_middle_j3 x3 x4 k next1 (sumW p l) := by
  have key : ∀ n (k' : Nat) (s : Int), k' ≤ l.length → l.length - k' < n → 0 ≤ s ∧ s ≤ 28400000 * k' → fix (fun next4 (s : Int × Int) => where_middle_l4 l x3 x4 k next1 p next4 s.1 s.2) (s, (k' : Int)) = where_middle_j3 x3 x4 k next1 ((l.drop k').foldl (fun s q => s + distP p q) s) := by
    intro n
    induction n with
    | zero => intro k' s _ h; omega
    | succ n ih =>
      intro k' s hk h hs
      rcases Nat.lt_or_ge k' l.length with h1 | h1
      · have hq := hl _ (List.getElem_mem h1)
        have hd := dist_bd hp hq
        rw [List.drop_eq_getElem_cons h1, List.foldl_cons]
        refine (fix_goto (s + distP p l[k'], ((k' + 1 : Nat) : Int)) fun next => ?_).trans (ih (k' + 1) (s + distP p l[k']) (by omega) (by omega) (by omega))
        show where_middle_l4 l x3 x4 k next1 p next s k' = _
        unfold where_middle_l4
        rw [cnd_if, if_pos (by omega), gAt_nat h1, bnd_pure, dist_eq hp hq, bnd_pure, gI_ok (by omega), bnd_pure, gI_ok (by omega), bnd_pure]
        rfl
      · have : k' = l.length := by omega
        subst this
        rw [List.drop_length]
        refine fix_done fun next => ?_
        show where_middle_l4 l x3 x4 k next1 p next s _ = _
        unfold where_middle_l4
        rw [cnd_if, if_neg (by omega)]
        rfl
  have := key (l.length + 1) 0 0 (Nat.zero_le _) (by omega) (by simp)
  rw [List.drop_zero] at this
  exact this

theorem mid_exW (l : List T_api_Place) (hl : ∀ p ∈ l, PL p) (h0 : 0 < l.length) (hn : l.length ≤ 2000) : ∃ i : Nat, where_middle l = some (i : Int) ∧ i < l.length := by
  unfold where_middle
  obtain ⟨r, h1, h2⟩ := fix_run (F := fun next1 (s : Int × Int × Int) => where_middle_l1 l next1 s.1 s.2.1 s.2.2) (fun s => (0 ≤ s.1 ∧ s.1 < l.length) ∧ (0 ≤ s.2.2 ∧ s.2.2 ≤ l.length)) (fun s => l.length - s.2.2.toNat) (fun r => 0 ≤ r ∧ r < l.length) (by
    rintro ⟨b, least, k'⟩ ⟨⟨g0, g1⟩, g2, g3⟩
    simp only at g0 g1 g2 g3
    obtain ⟨k, rfl⟩ := Int.eq_ofNat_of_zero_le g2
    rcases Nat.lt_or_ge k l.length with h | h
    · have hp := hl _ (List.getElem_mem h)
      right
      have e : ∀ next, where_middle_l1 l next b least k = where_middle_j3 b least k next (sumW l[k] l) := fun next => by
        unfold where_middle_l1
        rw [cnd_if, if_pos (by omega), gAt_nat h, bnd_pure, mid_sumW l hl hn b least k next l[k] hp]
      have e2 : ∀ next x y, where_middle_j2 k next x y = next (x, y, (k : Int) + 1) := fun next x y => by
        unfold where_middle_j2; rw [gI_ok (by omega), bnd_pure]
      by_cases c1 : least < 0
      · exact ⟨((k : Int), sumW l[k] l, (k : Int) + 1), ⟨⟨by simp only; omega, by simp only; omega⟩, by simp only; omega, by simp only; omega⟩, by simp only; omega, fun next => by
          show where_middle_l1 l next b least k = _
          rw [e]; unfold where_middle_j3; rw [cnd_if, if_pos c1, e2]⟩
      · by_cases c2 : sumW l[k] l < least
        · exact ⟨((k : Int), sumW l[k] l, (k : Int) + 1), ⟨⟨by simp only; omega, by simp only; omega⟩, by simp only; omega, by simp only; omega⟩, by simp only; omega, fun next => by
            show where_middle_l1 l next b least k = _
            rw [e]; unfold where_middle_j3; rw [cnd_if, if_neg c1, cnd_if, if_pos c2, e2]⟩
        · exact ⟨(b, least, (k : Int) + 1), ⟨⟨by simp only; omega, by simp only; omega⟩, by simp only; omega, by simp only; omega⟩, by simp only; omega, fun next => by
            show where_middle_l1 l next b least k = _
            rw [e]; unfold where_middle_j3; rw [cnd_if, if_neg c1, cnd_if, if_neg c2, e2]⟩
    · left
      exact ⟨b, ⟨g0, g1⟩, fun next => by
        show where_middle_l1 l next b least k = _
        unfold where_middle_l1; rw [cnd_if, if_neg (by omega)]⟩) (0, -1, 0) ⟨by simp; omega, by simp⟩
  exact ⟨r.toNat, by rw [h1]; congr 1; omega, by omega⟩

/-- Stops in order, from a place on, up to another one. -/
def okU (t : List T_where_Fix) (m s : Int) : Nat → Nat → List T_where_Stop → Prop
  | next, fin, [] => next ≤ fin
  | next, fin, x :: xs => ∃ f e : Nat, x.From = f ∧ x.To = e ∧ next ≤ f ∧ f ≤ e ∧ e < t.length ∧ s ≤ (t.getD e default).Moment - (t.getD f default).Moment ∧ (∀ k, f ≤ k → k ≤ e → distP (t.getD f default).Place (t.getD k default).Place ≤ m) ∧ okU t m s (e + 1) fin xs

theorem okU_mono {t : List T_where_Fix} {m s : Int} : ∀ {l : List T_where_Stop} {next i j : Nat}, okU t m s next i l → i ≤ j → okU t m s next j l
  | [], next, i, j, h, hij => by simp only [okU] at *; omega
  | x :: xs, next, i, j, h, hij => by
    simp only [okU] at *
    obtain ⟨f, e, h1, h2, h3, h4, h5, h6, h7, h8⟩ := h
    exact ⟨f, e, h1, h2, h3, h4, h5, h6, h7, okU_mono h8 hij⟩

theorem okU_app {t : List T_where_Fix} {m s : Int} {f e : Nat} {p : T_api_Place} (h4 : f ≤ e) (h5 : e < t.length) (h6 : s ≤ (t.getD e default).Moment - (t.getD f default).Moment) (h7 : ∀ k, f ≤ k → k ≤ e → distP (t.getD f default).Place (t.getD k default).Place ≤ m) :
    ∀ {l : List T_where_Stop} {next : Nat}, okU t m s next f l → okU t m s next (e + 1) (l ++ [⟨f, e, p⟩])
  | [], next, h => by
    simp only [okU, List.nil_append] at *
    exact ⟨f, e, rfl, rfl, h, h4, h5, h6, h7, Nat.le_refl _⟩
  | x :: xs, next, h => by
    simp only [okU, List.cons_append] at *
    obtain ⟨f', e', g1, g2, g3, g4, g5, g6, g7, g8⟩ := h
    exact ⟨f', e', g1, g2, g3, g4, g5, g6, g7, okU_app h4 h5 h6 h7 g8⟩

theorem stops_good {t : List T_where_Fix} (ht : TR t) {m s : Int} (hm : 0 ≤ m) : ∃ r : List T_where_Stop, where_part_parts ⟨where_Stops_1 m, where_Stops_2 s, where_Stops_3, where_Stops_4⟩ t = some r ∧ ∃ fin, okU t m s 0 fin r ∧ r.length ≤ 2000 := by
  have hl := ht.len
  unfold where_part_parts
  refine fix_run (fun (a : Int × List T_where_Stop) => (0 ≤ a.1 ∧ a.1 ≤ t.length) ∧ (a.2.length : Int) ≤ a.1 ∧ okU t m s 0 a.1.toNat a.2) (fun a => t.length - a.1.toNat) (fun (r : List T_where_Stop) => ∃ fin, okU t m s 0 fin r ∧ r.length ≤ 2000) ?_ (0, []) ⟨by simp, by simp, by simp [okU]⟩
  rintro ⟨i', l⟩ ⟨⟨h0, h1⟩, h2, h3⟩
  simp only at h0 h1 h2 h3
  obtain ⟨i, rfl⟩ := Int.eq_ofNat_of_zero_le h0
  simp only [Int.toNat_natCast] at h3
  rcases Nat.lt_or_ge i t.length with hi | hi
  · right
    obtain ⟨e1, e2⟩ := stopEnd_lt (m := m) hi
    have hee := stop_end ht (m := m) hi
    have hyes := fun k (h1 : i ≤ k) (h2 : k < stopEnd t m i) => of_decide_eq_true (stopEnd_yes (t := t) (m := m) h1 h2)
    generalize stopEnd t m i = e at *
    have hmi := ht.mom i hi
    have hme := ht.mom e e2
    have hnear : ∀ k, i ≤ k → k ≤ e → distP (t.getD i default).Place (t.getD k default).Place ≤ m := by
      intro k h1 h2
      by_cases hk : k = i
      · subst hk; rw [dist_self]; exact hm
      · have := (hyes (k - 1) (by omega) (by omega)).2
        rwa [show k - 1 + 1 = k from by omega] at this
    by_cases hc : s ≤ t[e].Moment - t[i].Moment
    · have hlen := plcs_len e1 e2
      obtain ⟨j, hj, hjl⟩ := mid_exW (plcs t i e) (plcs_PL ht) (by omega) (by omega)
      refine ⟨((e : Int) + 1, l ++ [⟨i, e, (plcs t i e)[j]⟩]), ⟨⟨by simp only; omega, by simp only; omega⟩, by simp only [List.length_append, List.length_singleton]; omega, ?_⟩, by simp only; omega, fun next => ?_⟩
      · simp only
        rw [show ((e : Int) + 1).toNat = e + 1 from by omega]
        exact okU_app e1 e2 (by rw [getD_of e2, getD_of hi]; exact hc) hnear h3
      · show where_part_parts_l2 _ t next i l = _
        unfold where_part_parts_l2
        rw [cnd_if, if_pos (by omega)]
        simp only
        rw [hee, bnd_pure]
        unfold where_Stops_2
        rw [gAt_nat e2, bnd_pure, gAt_nat hi, bnd_pure, gI_ok (by omega), bnd_pure, bnd_pure, decide_eq_true hc, Bool.not_true, cnd_false, gI_ok (by omega), bnd_pure, cut_eq e1 e2, bnd_pure]
        rw [collect ((t.drop i).take (e + 1 - i)) (by rw [List.length_take]; omega) _ (where_part_parts_j3 ⟨where_Stops_1 m, fun a0 a1 a2 => bnd (gAt a0 a2) fun t10 => bnd (gAt a0 a1) fun t15 => bnd (gI (t10.Moment - t15.Moment)) fun t18 => some (decide (s ≤ t18)), where_Stops_3, where_Stops_4⟩ i l next e) (fun _ _ _ => rfl)]
        unfold where_part_parts_j3 where_Stops_4
        simp only
        rw [show ((t.drop i).take (e + 1 - i)).map (·.Place) = plcs t i e from rfl, hj, bnd_pure, gAt_nat hjl, bnd_pure, bnd_pure, gApp_ok (by simp only [List.length_singleton]; omega), bnd_pure, gI_ok (by omega), bnd_pure]
    · refine ⟨((i : Int) + 1, l), ⟨⟨by simp only; omega, by simp only; omega⟩, by simp only; omega, ?_⟩, by simp only; omega, fun next => ?_⟩
      · simp only
        exact okU_mono h3 (by omega)
      · show where_part_parts_l2 _ t next i l = _
        unfold where_part_parts_l2
        rw [cnd_if, if_pos (by omega)]
        simp only
        rw [hee, bnd_pure]
        unfold where_Stops_2
        rw [gAt_nat e2, bnd_pure, gAt_nat hi, bnd_pure, gI_ok (by omega), bnd_pure, bnd_pure, decide_eq_false hc, Bool.not_false, cnd_true]
        unfold where_Stops_3
        rw [gI_ok (by omega), bnd_pure, bnd_pure]
  · left
    refine ⟨l, ⟨i, h3, by omega⟩, fun next => ?_⟩
    show where_part_parts_l2 _ t next i l = _
    unfold where_part_parts_l2 where_part_parts_j1
    rw [cnd_if, if_neg (by omega)]

theorem hold_loop {t : List T_where_Fix} (ht : TR t) {m s : Int} {r : List T_where_Stop} (hr : r.length ≤ 2000) : ∀ (n k next : Nat) (fin : Nat), r.length - k = n → k ≤ r.length → okU t m s next fin (r.drop k) → next ≤ 2001 →
    fix (fun next1 (u : Int × Int) => Keep_WhereStopsHold_l1 t m s (r, 0) next1 u.1 u.2) ((next : Int), (k : Int)) = some true := by
  have hl := ht.len
  intro n
  induction n with
  | zero =>
    intro k next fin hn hk hok _
    refine fix_done fun nx => ?_
    show Keep_WhereStopsHold_l1 t m s (r, 0) nx next k = _
    unfold Keep_WhereStopsHold_l1
    rw [cnd_if, if_neg (by simp only; omega)]
  | succ n ih =>
    intro k next fin hn hk hok hnx
    have hkl : k < r.length := by omega
    rw [List.drop_eq_getElem_cons hkl] at hok
    simp only [okU] at hok
    obtain ⟨f, e, h1, h2, h3, h4, h5, h6, h7, h8⟩ := hok
    have hf : f < t.length := by omega
    rw [getD_of h5, getD_of hf] at h6
    have mf := ht.mom f hf
    have me := ht.mom e h5
    refine (fix_goto (((e + 1 : Nat) : Int), ((k + 1 : Nat) : Int)) fun nx => ?_).trans (ih (k + 1) (e + 1) fin (by omega) (by omega) h8 (by omega))
    show Keep_WhereStopsHold_l1 t m s (r, 0) nx next k = _
    unfold Keep_WhereStopsHold_l1
    simp only
    rw [cnd_if, if_pos (by omega), gAt_nat hkl, bnd_pure, h1, h2, cnd_if, if_neg (by omega), cnd_if, if_neg (by omega), cnd_if, if_neg (by omega), gAt_nat h5, bnd_pure, gAt_nat hf, bnd_pure, gI_ok (by omega), bnd_pure, cnd_if, if_neg (by omega), gI_ok (by omega), bnd_pure, cut_eq h4 h5, bnd_pure]
    have hsub : ((t.drop f).take (e + 1 - f)).length = e + 1 - f := by rw [List.length_take, List.length_drop]; omega
    refine fix_upto (F := fun next4 u => Keep_WhereStopsHold_l4 t m s k nx r[k] t[e] t[f] (t[e].Moment - t[f].Moment) ((t.drop f).take (e + 1 - f)) next4 u) 0 (e + 1 - f) (Nat.zero_le _) (fun n4 j _ hj => ?_) fun n4 => ?_
    · have hjl : j < ((t.drop f).take (e + 1 - f)).length := by omega
      have hel : ((t.drop f).take (e + 1 - f))[j] = t[f + j]'(by omega) := by rw [List.getElem_take, List.getElem_drop]
      have hd := h7 (f + j) (by omega) (by omega)
      rw [getD_of hf, getD_of (by omega : f + j < t.length)] at hd
      show Keep_WhereStopsHold_l4 t m s k nx r[k] t[e] t[f] (t[e].Moment - t[f].Moment) ((t.drop f).take (e + 1 - f)) n4 j = _
      unfold Keep_WhereStopsHold_l4
      rw [cnd_if, if_pos (by omega), gAt_nat hjl, bnd_pure, hel, h1, gAt_nat hf, bnd_pure, Distance_ok (ht.pl _ _) (ht.pl _ _), bnd_pure, cnd_if, if_neg (fun h => h rfl), cnd_if, if_neg (by simp only; omega), gI_ok (by omega), bnd_pure]
    · show Keep_WhereStopsHold_l4 t m s k nx r[k] t[e] t[f] (t[e].Moment - t[f].Moment) ((t.drop f).take (e + 1 - f)) n4 _ = _
      unfold Keep_WhereStopsHold_l4 Keep_WhereStopsHold_j3 Keep_WhereStopsHold_j2
      rw [cnd_if, if_neg (by omega), h2, gI_ok (by omega), bnd_pure, gI_ok (by omega), bnd_pure]
      rfl

theorem whereStopsHoldS (t : List T_where_Fix) (m s : Int) {φ ψ χ : Prop} (_ : φ) (_ : ψ) (_ : χ) : Keep_WhereStopsHold t m s = some true := by
  unfold Keep_WhereStopsHold
  rw [awake_eq, bnd_pure, Bool.not_true, cnd_false]
  unfold where_Stops where_checkParts
  rw [CheckTrack_eq, bnd_pure, cnd_if]
  by_cases h1 : trackE t = 0
  · rw [if_neg (fun h => h h1), outside_eq, bnd_pure, cnd_if]
    by_cases h2 : m < 0 ∨ 30000000 < m
    · rw [if_pos h2]; rfl
    · rw [if_neg h2, isMoment_eq, bnd_pure]
      by_cases h3 : 0 ≤ s ∧ s ≤ 6311433599
      · obtain ⟨r, g1, fin, g2, g3⟩ := stops_good (track_ok h1) (m := m) (s := s) (by omega)
        rw [decide_eq_true h3, Bool.not_true, cnd_false, bnd_pure, cnd_if, if_neg (fun h => h rfl), g1, bnd_pure, bnd_pure, cnd_if, if_neg (fun h => h rfl)]
        exact hold_loop (track_ok h1) g3 r.length 0 0 fin (by omega) (by omega) (by rw [List.drop_zero]; exact g2) (by omega)
      · rw [decide_eq_false h3]; rfl
  · rw [if_pos h1, bnd_pure, cnd_if, if_pos h1, bnd_pure, cnd_if, if_pos h1]

end Go.M
