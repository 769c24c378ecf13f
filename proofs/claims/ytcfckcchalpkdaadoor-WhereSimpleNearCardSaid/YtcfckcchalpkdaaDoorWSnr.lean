/- The law WhereSimpleNear in plain Lean: a shorter track has the ends, and is nowhere farther away than told. Conditions: none. -/
import Derived.Test.YtcfckcchalpkdaaDoorWD
import Derived.Test.YtcfckcchalpkdaaDoorWTrk
import Derived.Test.YtcfckcchalpkdaaDoorWSim
namespace Go.M
open Go.Md Go.Pl Go.Vc.Where

/-! ### what the marks say -/

theorem farGo_pos (t : List T_where_Fix) (a b : Nat) : ∀ n k s, 0 ≤ s.1 → 0 ≤ (farGo t a b n k s).1
  | 0, _, _, h => h
  | n + 1, k, s, h => by
    refine farGo_pos t a b n (k + 1) _ ?_
    unfold farF; split
    · simp
    · exact h

theorem farGo_none (t : List T_where_Fix) (a b : Nat) (m : Int) : ∀ n k, (farGo t a b n k (-1, m)).1 = -1 → ∀ x, k ≤ x → x < k + n → offD t a b x ≤ m
  | 0, k, _, x, h1, h2 => by omega
  | n + 1, k, h, x, h1, h2 => by
    simp only [farGo] at h
    by_cases hk : m < offD t a b k
    · have := farGo_pos t a b n (k + 1) (farF t a b (-1, m) k) (by unfold farF; rw [if_pos hk]; simp)
      omega
    · have e : farF t a b (-1, m) k = (-1, m) := by unfold farF; rw [if_neg hk]
      rw [e] at h
      by_cases hx : x = k
      · subst hx; omega
      · exact farGo_none t a b m n (k + 1) h x (by omega) (by omega)

theorem farS_none {t : List T_where_Fix} {m : Int} {a b : Nat} (h : farS t m a b < 0) : ∀ x, a < x → x < b → offD t a b x ≤ m := by
  intro x h1 h2
  have hf := farS_in t m a b
  have : farS t m a b = -1 := by omega
  exact farGo_none t a b m _ _ this x (by omega) (by omega)

def at' (st : List Bool) (k : Nat) : Bool := st.getD k false

theorem at_set {st : List Bool} {k x : Nat} (hk : k < st.length) : at' (st.set k true) x = if x = k then true else at' st x := by
  unfold at'
  rw [List.getD_eq_getElem?_getD, List.getD_eq_getElem?_getD, List.getElem?_set]
  by_cases h : k = x
  · subst h; rw [if_pos rfl, if_pos hk, if_pos rfl]; rfl
  · rw [if_neg h, if_neg (fun e => h e.symm)]

/-- Between two marks that follow each other nothing is too far off. -/
def Good (t : List T_where_Fix) (m : Int) (a b : Nat) (st : List Bool) : Prop :=
  ∀ i j, a ≤ i → i < j → j ≤ b → at' st i = true → at' st j = true → (∀ k, i < k → k < j → at' st k = false) → ∀ k, i < k → k < j → offD t i j k ≤ m

theorem simGo_good (t : List T_where_Fix) (m : Int) : ∀ n a b st, b - a ≤ n → b < st.length → a ≤ b → at' st a = true → at' st b = true → (∀ k, a < k → k < b → at' st k = false) →
    Good t m a b (simGo t m n a b st) ∧ (∀ k, (k ≤ a ∨ b ≤ k) → at' (simGo t m n a b st) k = at' st k)
  | 0, a, b, st, h, hl, hab, ha, hb, hz => by
    refine ⟨fun i j h1 h2 h3 => by omega, fun _ _ => rfl⟩
  | n + 1, a, b, st, h, hl, hab, ha, hb, hz => by
    simp only [simGo]
    have hf := farS_in t m a b
    by_cases hn : farS t m a b < 0
    · rw [if_pos hn]
      refine ⟨fun i j h1 h2 h3 hi hj hbt k h4 h5 => ?_, fun _ _ => rfl⟩
      have hia : i = a := by
        rcases Nat.lt_or_ge a i with h' | h'
        · have := hz i h' (by omega); rw [this] at hi; cases hi
        · omega
      have hjb : j = b := by
        rcases Nat.lt_or_ge j b with h' | h'
        · have := hz j (by omega) h'; rw [this] at hj; cases hj
        · omega
      subst hia hjb
      exact farS_none hn k h4 h5
    · rw [if_neg hn]
      obtain ⟨k, hk⟩ := Int.eq_ofNat_of_zero_le (show 0 ≤ farS t m a b by omega)
      rw [hk, Int.toNat_natCast]
      have hk1 : a < k ∧ k < b := by omega
      have hkl : k < st.length := by omega
      have s1 : ∀ x, at' (st.set k true) x = if x = k then true else at' st x := fun x => at_set hkl
      have g1 := simGo_good t m n a k (st.set k true) (by omega) (by simp; omega) (by omega) (by rw [s1]; split <;> simp [ha]) (by rw [s1, if_pos rfl]) (fun x h1 h2 => by rw [s1, if_neg (by omega)]; exact hz x h1 (by omega))
      have l1 := simGo_len t m n a k (st.set k true)
      rw [List.length_set] at l1
      generalize simGo t m n a k (st.set k true) = st2 at *
      have g2 := simGo_good t m n k b st2 (by omega) (by omega) (by omega) (by rw [g1.2 k (by omega), s1, if_pos rfl]) (by rw [g1.2 b (by omega), s1, if_neg (by omega)]; exact hb) (fun x h1 h2 => by rw [g1.2 x (by omega), s1, if_neg (by omega)]; exact hz x (by omega) h2)
      generalize simGo t m n k b st2 = st3 at *
      have hk3 : at' st3 k = true := by rw [g2.2 k (by omega), g1.2 k (by omega), s1, if_pos rfl]
      refine ⟨fun i j h1 h2 h3 hi hj hbt => ?_, fun x hx => ?_⟩
      · rcases Nat.lt_or_ge i k with h' | h'
        · have hjk : j ≤ k := by
            rcases Nat.lt_or_ge k j with h'' | h''
            · have := hbt k h' h''; rw [hk3] at this; cases this
            · exact h''
          exact g1.1 i j h1 h2 hjk (by rw [← g2.2 i (by omega)]; exact hi) (by rw [← g2.2 j (by omega)]; exact hj) (fun x h4 h5 => by rw [← g2.2 x (by omega)]; exact hbt x h4 h5)
        · exact g2.1 i j h' h2 h3 hi hj hbt
      · rw [g2.2 x (by omega), g1.2 x (by omega), s1, if_neg (by omega)]

/-! ### what stays, by its numbers -/

def kept (st : List Bool) (n : Nat) : List Nat := (List.range n).filter (at' st)

theorem stays_kept : ∀ (t : List T_where_Fix) (st : List Bool), st.length = t.length → stays t st = (kept st t.length).map fun k => t.getD k default := by
  have fold : ∀ (xs : List (T_where_Fix × Bool)) (s : List T_where_Fix), xs.foldl staysF s = s ++ (xs.filter (·.2)).map (·.1) := by
    intro xs
    induction xs with
    | nil => intro s; simp
    | cons x xs ih =>
      intro s
      rw [List.foldl_cons, ih]
      unfold staysF
      cases hx : x.2
      · simp [hx]
      · simp [hx]
  intro t st hst
  unfold stays kept
  rw [fold, List.nil_append]
  have hz : t.zip st = (List.range t.length).map fun k => (t.getD k default, at' st k) := by
    apply List.ext_getElem
    · rw [List.length_zip, List.length_map, List.length_range]; omega
    · intro k h1 h2
      rw [List.length_zip] at h1
      rw [List.getElem_zip, List.getElem_map, List.getElem_range, getD_of (by omega : k < t.length)]
      unfold at'
      rw [List.getD_eq_getElem?_getD, List.getElem?_eq_getElem (by omega : k < st.length)]
      rfl
  rw [hz, List.filter_map, List.map_map]
  rfl

theorem kept_mem {st : List Bool} {n k : Nat} : k ∈ kept st n ↔ k < n ∧ at' st k = true := by
  unfold kept; rw [List.mem_filter, List.mem_range]
theorem kept_up {st : List Bool} {n : Nat} : (kept st n).Pairwise (· < ·) := List.Pairwise.filter _ List.pairwise_lt_range

theorem up_lt {l : List Nat} (h : l.Pairwise (· < ·)) {p q : Nat} (hpq : p < q) (hq : q < l.length) : l[p] < l[q] := List.pairwise_iff_getElem.1 h p q (by omega) hq hpq
theorem up_le {l : List Nat} (h : l.Pairwise (· < ·)) {p q : Nat} (hpq : p ≤ q) (hq : q < l.length) : l[p] ≤ l[q] := by
  rcases Nat.lt_or_ge p q with h' | h'
  · exact Nat.le_of_lt (up_lt h h' hq)
  · have : p = q := by omega
    subst this; exact Nat.le_refl _

theorem TR_sub {t : List T_where_Fix} (ht : TR t) {st : List Bool} : TR ((kept st t.length).map fun k => t.getD k default) := by
  have hlt : ∀ k (h : k < (kept st t.length).length), (kept st t.length)[k] < t.length := fun k h => (kept_mem.1 (List.getElem_mem h)).1
  refine ⟨?_, fun k h => ?_, fun k h => ?_, fun k h => ?_⟩
  · rw [List.length_map]
    have : (kept st t.length).length ≤ (List.range t.length).length := List.length_filter_le _ _
    rw [List.length_range] at this
    have := ht.len; omega
  · rw [List.length_map] at h
    rw [List.getElem_map, getD_of (hlt k h)]; exact ht.mom _ _
  · rw [List.length_map] at h
    rw [List.getElem_map, getD_of (hlt k h)]; exact ht.pl _ _
  · rw [List.length_map] at h
    rw [List.getElem_map, List.getElem_map, getD_of (hlt k (by omega)), getD_of (hlt (k + 1) h)]
    exact ht.lt (up_lt kept_up (by omega) h) _

theorem track_of_TR {t : List T_where_Fix} (ht : TR t) : trackE t = 0 := by
  have hl := ht.len
  unfold trackE
  rw [if_neg (by omega)]
  refine firstE_all _ _ fun k _ hk => ?_
  have hk' : k < t.length := by omega
  refine fixE_0 hk' (ht.mom k hk') (PL_iff.2 (ht.pl k hk')) fun h => ?_
  have := ht.lt (show k - 1 < k by omega) hk'
  omega

/-! ### Simple -/

def marks (t : List T_where_Fix) (m : Int) : List Bool := simGo t m (t.length - 1 - 0) 0 (t.length - 1) (((List.replicate t.length false).set 0 true).set (t.length - 1) true)

theorem marks_len (t : List T_where_Fix) (m : Int) : (marks t m).length = t.length := by unfold marks; rw [simGo_len]; simp

theorem Simple_W {t : List T_where_Fix} (h : trackE t = 0) {m : Int} (hm : 0 ≤ m ∧ m ≤ 30000000) (h0 : 0 < t.length) : where_Simple t m = some (stays t (marks t m), 0) := by
  have ht := track_ok h
  have hl := ht.len
  unfold where_Simple
  have hmk : gMake 1 (t.length : Int) false = some (List.replicate t.length false) := by rw [gMake_ok (by omega), Int.toNat_natCast]
  rw [CheckTrack_eq, bnd_pure, h, cnd_if, if_neg (by decide), outside_eq, bnd_pure, decide_eq_false (by omega), cnd_false, hmk, bnd_pure, gI_ok (by omega), bnd_pure, cnd_if, if_pos (by omega)]
  have g0 : gAt (List.replicate t.length false) 0 = some false := by
    have := gAt_nat (xs := List.replicate t.length false) (k := 0) (by simpa using h0)
    simpa using this
  have s0 : gSet (List.replicate t.length false) 0 true = some ((List.replicate t.length false).set 0 true) := gSet_ok (by omega) (by simpa using h0)
  have hn : (t.length : Int) - 1 = ((t.length - 1 : Nat) : Int) := by omega
  obtain ⟨x, hx⟩ : ∃ x, gAt ((List.replicate t.length false).set 0 true) ((t.length : Int) - 1) = some x := ⟨_, by rw [hn]; exact gAt_nat (by simp; omega)⟩
  have s1 : gSet ((List.replicate t.length false).set 0 true) ((t.length : Int) - 1) true = some (((List.replicate t.length false).set 0 true).set (t.length - 1) true) := by
    rw [hn, gSet_ok (by omega) (by simp; omega), Int.toNat_natCast]
  have hstl : (((List.replicate t.length false).set 0 true).set (t.length - 1) true).length = t.length := by simp
  rw [g0, bnd_pure, s0, bnd_pure, hx, bnd_pure, s1, bnd_pure, hn]
  have e1 := simplify_eq ht (m := m) (a := 0) (b := t.length - 1) (by omega) (by omega) hstl
  rw [show ((0 : Nat) : Int) = 0 from rfl] at e1
  rw [e1, bnd_pure]
  exact where_stays hl (marks_len t m)

theorem marks_good {t : List T_where_Fix} {m : Int} (h0 : 0 < t.length) : Good t m 0 (t.length - 1) (marks t m) ∧ at' (marks t m) 0 = true ∧ at' (marks t m) (t.length - 1) = true := by
  have hz : ∀ k, at' (List.replicate t.length false) k = false := by
    intro k; unfold at'
    rw [List.getD_eq_getElem?_getD]
    rcases Nat.lt_or_ge k t.length with h | h
    · rw [List.getElem?_eq_getElem (by simpa using h)]; simp
    · rw [List.getElem?_eq_none (by simpa using h)]; rfl
  have s : ∀ k, at' (((List.replicate t.length false).set 0 true).set (t.length - 1) true) k = if k = t.length - 1 then true else if k = 0 then true else false := by
    intro k
    rw [at_set (by simp; omega), at_set (by simp; omega), hz]
  have g := simGo_good t m (t.length - 1 - 0) 0 (t.length - 1) (((List.replicate t.length false).set 0 true).set (t.length - 1) true) (by omega) (by simp; omega) (by omega) (by rw [s]; split <;> simp) (by rw [s, if_pos rfl]) (fun k h1 h2 => by rw [s, if_neg (by omega), if_neg (by omega)])
  refine ⟨g.1, ?_, ?_⟩
  · unfold marks; rw [g.2 0 (by omega), s]; split <;> simp
  · unfold marks; rw [g.2 _ (by omega), s, if_pos rfl]

/-- Where the shorter track is at the moment of a fix. -/
theorem near_at {t : List T_where_Fix} (h : trackE t = 0) {m : Int} (hm : 0 ≤ m ∧ m ≤ 30000000) {x : Nat} (hx : x < t.length) : ∃ p, where_At (stays t (marks t m)) t[x].Moment 6311433599 = some (p, 0) ∧ PL p ∧ distP p t[x].Place ≤ m := by
  have ht := track_ok h
  obtain ⟨good, k0, k1⟩ := marks_good (t := t) (m := m) (by omega)
  rw [stays_kept t _ (marks_len t m)]
  have hT := TR_sub ht (st := marks t m)
  have hmx := ht.mom x hx
  have hmem := fun k => kept_mem (st := marks t m) (n := t.length) (k := k)
  have hup := kept_up (st := marks t m) (n := t.length)
  have hlt : ∀ k (h : k < (kept (marks t m) t.length).length), (kept (marks t m) t.length)[k] < t.length := fun k h => ((hmem _).1 (List.getElem_mem h)).1
  have hat := fun k (h : k < (kept (marks t m) t.length).length) => ((hmem _).1 (List.getElem_mem h)).2
  unfold where_At
  rw [CheckTrack_eq, bnd_pure, track_of_TR hT, cnd_if, if_neg (by decide), isMoment_eq, bnd_pure, decide_eq_true hmx, Bool.not_true, cnd_false, cnd_if, if_neg (by omega), at_eq hT hmx (by omega), bnd_pure]
  have hA1 := fun i (h : i < ahead ((kept (marks t m) t.length).map fun k => t.getD k default) t[x].Moment) (hi : i < ((kept (marks t m) t.length).map fun k => t.getD k default).length) => ahead_lt (t := (kept (marks t m) t.length).map fun k => t.getD k default) h hi
  have hA2 := fun i (h : ahead ((kept (marks t m) t.length).map fun k => t.getD k default) t[x].Moment ≤ i) (hi : i < ((kept (marks t m) t.length).map fun k => t.getD k default).length) => ahead_ge hT h hi
  have hA3 := ahead_le ((kept (marks t m) t.length).map fun k => t.getD k default) t[x].Moment
  unfold atS'
  generalize hn : ahead ((kept (marks t m) t.length).map fun k => t.getD k default) t[x].Moment = n at *
  rw [List.length_map] at hA3
  -- the last mark lies behind x
  obtain ⟨q, hq, hql⟩ := List.mem_iff_getElem.1 ((hmem (t.length - 1)).2 ⟨by omega, k1⟩)
  have hnl : n < (kept (marks t m) t.length).length := by
    rcases Nat.lt_or_ge n (kept (marks t m) t.length).length with h' | h'
    · exact h'
    · have := hA1 q (by omega) (by rw [List.length_map]; exact hq)
      rw [List.getElem_map, hql, getD_of (by omega : t.length - 1 < t.length)] at this
      rcases Nat.lt_or_ge x (t.length - 1) with h'' | h''
      · have := ht.lt h'' (by omega); omega
      · have e : t[t.length - 1] = t[x] := by congr 1; omega
        rw [e] at this; omega
  have hj := hA2 n (Nat.le_refl _) (by rw [List.length_map]; exact hnl)
  rw [List.getElem_map, getD_of (hlt n hnl)] at hj
  have hjx : x ≤ (kept (marks t m) t.length)[n] := by
    rcases Nat.lt_or_ge (kept (marks t m) t.length)[n] x with h' | h'
    · have := ht.lt h' hx; omega
    · exact h'
  have gn : ((kept (marks t m) t.length).map fun k => t.getD k default).getD n default = t[(kept (marks t m) t.length)[n]]'(hlt n hnl) := by
    rw [getD_of (by rw [List.length_map]; exact hnl), List.getElem_map, getD_of (hlt n hnl)]
  by_cases he : (t[(kept (marks t m) t.length)[n]]'(hlt n hnl)).Moment = t[x].Moment
  · rw [dif_pos ⟨by rw [List.length_map]; exact hnl, by rw [gn]; exact he⟩, gn]
    have hxe : (kept (marks t m) t.length)[n] = x := by
      rcases Nat.lt_or_ge x (kept (marks t m) t.length)[n] with h' | h'
      · have := ht.lt h' (hlt n hnl); omega
      · omega
    refine ⟨_, rfl, ht.pl _ _, ?_⟩
    simp only [hxe]
    rw [dist_self]; exact hm.1
  · have hxj : x < (kept (marks t m) t.length)[n] := by
      rcases Nat.lt_or_ge x (kept (marks t m) t.length)[n] with h' | h'
      · exact h'
      · exact absurd (by congr 2; omega) he
    have hn0 : 0 < n := by
      rcases Nat.eq_zero_or_pos n with h' | h'
      · exfalso
        obtain ⟨z, hz, hzl⟩ := List.mem_iff_getElem.1 ((hmem 0).2 ⟨by omega, k0⟩)
        have := up_le hup (show n ≤ z by omega) hz
        rw [hzl] at this; omega
      · exact h'
    have hi := hA1 (n - 1) (by omega) (by rw [List.length_map]; omega)
    rw [List.getElem_map, getD_of (hlt (n - 1) (by omega))] at hi
    have hix : (kept (marks t m) t.length)[n - 1] < x := by
      rcases Nat.lt_or_ge (kept (marks t m) t.length)[n - 1] x with h' | h'
      · exact h'
      · exfalso
        rcases Nat.lt_or_ge x (kept (marks t m) t.length)[n - 1] with h'' | h''
        · have := ht.lt h'' (hlt (n - 1) (by omega)); omega
        · have e : (kept (marks t m) t.length)[n - 1] = x := by omega
          simp only [e] at hi; omega
    have gi : ((kept (marks t m) t.length).map fun k => t.getD k default).getD (n - 1) default = t[(kept (marks t m) t.length)[n - 1]]'(hlt (n - 1) (by omega)) := by
      rw [getD_of (by rw [List.length_map]; omega), List.getElem_map, getD_of (hlt (n - 1) (by omega))]
    have hij := good (kept (marks t m) t.length)[n - 1] (kept (marks t m) t.length)[n] (Nat.zero_le _) (by omega) (by have := hlt n hnl; omega) (hat _ _) (hat _ _) (fun k h1 h2 => by
      cases hk : at' (marks t m) k with
      | false => rfl
      | true =>
        exfalso
        obtain ⟨w, hw, hwl⟩ := List.mem_iff_getElem.1 ((hmem k).2 ⟨by have := hlt n hnl; omega, hk⟩)
        rcases Nat.lt_or_ge w n with h' | h'
        · have := up_le hup (show w ≤ n - 1 by omega) (by omega); rw [hwl] at this; omega
        · have := up_le hup h' hw; rw [hwl] at this; omega) x hix hxj
    obtain ⟨o1, o2, o3, o4, o5⟩ := off_eq ht hix hxj (hlt n hnl)
    rw [dif_neg (fun h => by rw [gn] at h; exact he h.2), if_pos hn0, if_pos (by rw [List.length_map]; exact hnl), gn, gi]
    unfold pick
    simp only
    rw [if_pos (by omega)]
    refine ⟨_, rfl, betw_PL (ht.pl _ _) (ht.pl _ _) o4 ⟨o2, o3⟩, ?_⟩
    rw [← o1]; exact hij

theorem fix_refl (f : T_where_Fix) : eq_where_Fix f f = true := by simp [eq_where_Fix]

theorem whereSimpleNearS (t : List T_where_Fix) (m : Int) {φ ψ : Prop} (_ : φ) (_ : ψ) : Keep_WhereSimpleNear t m = some true := by
  unfold Keep_WhereSimpleNear
  rw [awake_eq, bnd_pure, Bool.not_true, cnd_false]
  by_cases h1 : trackE t = 0
  · by_cases h2 : 0 ≤ m ∧ m ≤ 30000000
    · by_cases h0 : 0 < t.length
      · have ht := track_ok h1
        have hl := ht.len
        rw [Simple_W h1 h2 h0, bnd_pure, cnd_if, if_neg (fun h => h rfl), cnd_if, if_neg (by omega)]
        obtain ⟨good, k0, k1⟩ := marks_good (t := t) (m := m) h0
        have hs := stays_kept t _ (marks_len t m)
        have hup := kept_up (st := marks t m) (n := t.length)
        have hlt : ∀ k (h : k < (kept (marks t m) t.length).length), (kept (marks t m) t.length)[k] < t.length := fun k h => (kept_mem.1 (List.getElem_mem h)).1
        obtain ⟨z, hz, hzl⟩ := List.mem_iff_getElem.1 ((kept_mem (st := marks t m) (n := t.length) (k := 0)).2 ⟨by omega, k0⟩)
        obtain ⟨q, hq, hql⟩ := List.mem_iff_getElem.1 ((kept_mem (st := marks t m) (n := t.length) (k := t.length - 1)).2 ⟨by omega, k1⟩)
        have hsl : (stays t (marks t m)).length = (kept (marks t m) t.length).length := by rw [hs, List.length_map]
        have hkl : (kept (marks t m) t.length).length ≤ t.length := by
          have : (kept (marks t m) t.length).length ≤ (List.range t.length).length := List.length_filter_le _ _
          rwa [List.length_range] at this
        have first : gAt (stays t (marks t m)) 0 = some t[0] := by
          have hf0 : (kept (marks t m) t.length)[0]'(by omega) = 0 := by
            have := up_le hup (Nat.zero_le z) hz
            rw [hzl] at this; omega
          rw [show (0 : Int) = ((0 : Nat) : Int) from rfl, gAt_nat (by omega)]
          congr 1
          simp only [hs, List.getElem_map, hf0]
          rw [getD_of h0]
        have last : gAt (stays t (marks t m)) (((stays t (marks t m)).length : Int) - 1) = some (t[t.length - 1]'(by omega)) := by
          have hfl : (kept (marks t m) t.length)[(kept (marks t m) t.length).length - 1]'(by omega) = t.length - 1 := by
            have := up_le hup (show q ≤ (kept (marks t m) t.length).length - 1 by omega) (by omega)
            rw [hql] at this
            have := hlt ((kept (marks t m) t.length).length - 1) (by omega)
            omega
          rw [show ((stays t (marks t m)).length : Int) - 1 = (((kept (marks t m) t.length).length - 1 : Nat) : Int) from by omega, gAt_nat (by omega)]
          congr 1
          simp only [hs, List.getElem_map, hfl]
          rw [getD_of (by omega)]
        have first' : gAt t 0 = some t[0] := by rw [show (0 : Int) = ((0 : Nat) : Int) from rfl, gAt_nat h0]
        have last' : gAt t ((t.length : Int) - 1) = some (t[t.length - 1]'(by omega)) := by rw [show (t.length : Int) - 1 = ((t.length - 1 : Nat) : Int) from by omega, gAt_nat (by omega)]
        simp only
        rw [cnd_if, if_neg (by omega), first, bnd_pure, first', bnd_pure, fix_refl, Bool.not_true, cnd_false, gI_ok (by omega), bnd_pure, last, bnd_pure, gI_ok (by omega), bnd_pure, last', bnd_pure, fix_refl, Bool.not_true, cnd_false]
        refine fix_upto (F := fun next1 s => Keep_WhereSimpleNear_l1 t m (stays t (marks t m), 0) next1 s) 0 t.length (Nat.zero_le _) (fun next x _ hx => ?_) fun next => ?_
        · show Keep_WhereSimpleNear_l1 t m (stays t (marks t m), 0) next x = _
          obtain ⟨p, g1, g2, g3⟩ := near_at h1 h2 hx
          unfold Keep_WhereSimpleNear_l1
          rw [cnd_if, if_pos (by omega), gAt_nat hx, bnd_pure, g1, bnd_pure, cnd_if, if_neg (fun h => h rfl), Distance_ok g2 (ht.pl _ _), bnd_pure, cnd_if, if_neg (fun h => h rfl), cnd_if, if_neg (by simp only; omega), gI_ok (by omega), bnd_pure]
        · show Keep_WhereSimpleNear_l1 t m (stays t (marks t m), 0) next _ = _
          unfold Keep_WhereSimpleNear_l1
          rw [cnd_if, if_neg (by omega)]
      · have : t = [] := List.eq_nil_of_length_eq_zero (by omega)
        subst this
        have hz : where_Simple [] m = some ([], 0) := by
          unfold where_Simple
          have hmk : gMake 1 ((([] : List T_where_Fix).length : Nat) : Int) false = some [] := by rw [gMake_ok (by simp)]; rfl
          rw [CheckTrack_eq, bnd_pure, h1, cnd_if, if_neg (by decide), outside_eq, bnd_pure, decide_eq_false (by omega), cnd_false, hmk, bnd_pure, gI_ok (by simp), bnd_pure, cnd_if, if_neg (by simp)]
          exact where_stays (t := []) (st := []) (by simp) rfl
        rw [hz, bnd_pure, cnd_if, if_neg (fun h => h rfl), cnd_if, if_pos (by simp)]
    · have : where_Simple t m = some ([], 2) := by
        unfold where_Simple
        rw [CheckTrack_eq, bnd_pure, h1, cnd_if, if_neg (by decide), outside_eq, bnd_pure, decide_eq_true (by omega), cnd_true]
      rw [this, bnd_pure, cnd_if, if_pos (by decide)]
  · have : where_Simple t m = some ([], trackE t) := by
      unfold where_Simple
      rw [CheckTrack_eq, bnd_pure, cnd_if, if_pos h1]
    rw [this, bnd_pure, cnd_if, if_pos h1]

end Go.M
