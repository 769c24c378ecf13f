/- The law WhereSimple in plain Lean: what Simple is, and what the reference has. Conditions: none. -/
import Derived.Test.YtfgehlmdcllclaaWStp
namespace Go.M
open Go.Md Go.Pl Go.Vc.Where

/-- How far a fix is from the straight way. -/
def offD (t : List T_where_Fix) (a b k : Nat) : Int :=
  distP (betwP (t.getD a default).Place (t.getD b default).Place ((t.getD k default).Moment - (t.getD a default).Moment) ((t.getD b default).Moment - (t.getD a default).Moment)) (t.getD k default).Place
def farF (t : List T_where_Fix) (a b : Nat) (s : Int × Int) (k : Nat) : Int × Int := if s.2 < offD t a b k then ((k : Int), offD t a b k) else s
def farGo (t : List T_where_Fix) (a b : Nat) : Nat → Nat → Int × Int → Int × Int
  | 0, _, s => s
  | n + 1, k, s => farGo t a b n (k + 1) (farF t a b s k)
def farS (t : List T_where_Fix) (m : Int) (a b : Nat) : Int := (farGo t a b (b - (a + 1)) (a + 1) (-1, m)).1

theorem farGo_in (t : List T_where_Fix) (a b : Nat) : ∀ n k s, k + n ≤ b → a < k → (s.1 = -1 ∨ (a : Int) < s.1 ∧ s.1 < (b : Int)) → ((farGo t a b n k s).1 = -1 ∨ (a : Int) < (farGo t a b n k s).1 ∧ (farGo t a b n k s).1 < (b : Int))
  | 0, _, _, _, _, h => h
  | n + 1, k, s, h1, h2, h => by
    refine farGo_in t a b n (k + 1) _ (by omega) (by omega) ?_
    unfold farF
    split
    · right; simp only; omega
    · exact h

theorem farS_in (t : List T_where_Fix) (m : Int) (a b : Nat) : farS t m a b = -1 ∨ (a : Int) < farS t m a b ∧ farS t m a b < (b : Int) := by
  unfold farS
  by_cases h : a + 1 ≤ b
  · exact farGo_in t a b _ _ _ (by omega) (by omega) (.inl rfl)
  · rw [show b - (a + 1) = 0 from by omega]; exact .inl rfl

/-- The marks. -/
def simGo (t : List T_where_Fix) (m : Int) : Nat → Nat → Nat → List Bool → List Bool
  | 0, _, _, st => st
  | n + 1, a, b, st => if farS t m a b < 0 then st else simGo t m n (farS t m a b).toNat b (simGo t m n a (farS t m a b).toNat (st.set (farS t m a b).toNat true))

theorem simGo_len (t : List T_where_Fix) (m : Int) : ∀ n a b st, (simGo t m n a b st).length = st.length
  | 0, _, _, _ => rfl
  | n + 1, a, b, st => by
    simp only [simGo]
    split
    · rfl
    · rw [simGo_len t m n, simGo_len t m n, List.length_set]

theorem simGo_fuel (t : List T_where_Fix) (m : Int) : ∀ n n' a b st, b - a ≤ n → b - a ≤ n' → simGo t m n a b st = simGo t m n' a b st := by
  have zero : ∀ n a b st, b - a = 0 → simGo t m n a b st = st := by
    intro n a b st h
    cases n with
    | zero => rfl
    | succ n =>
      simp only [simGo]
      have := farS_in t m a b
      rw [if_pos (by omega)]
  intro n
  induction n with
  | zero => intro n' a b st h1 h2; rw [zero n' a b st (by omega), zero 0 a b st (by omega)]
  | succ n ih =>
    intro n' a b st h1 h2
    cases n' with
    | zero => rw [zero _ a b st (by omega), zero 0 a b st (by omega)]
    | succ n' =>
      simp only [simGo]
      have hf := farS_in t m a b
      split
      · rfl
      · rw [ih n' a _ _ (by omega) (by omega), ih n' _ b _ (by omega) (by omega)]

theorem off_eq {t : List T_where_Fix} (ht : TR t) {a b k : Nat} (h1 : a < k) (h2 : k < b) (hb : b < t.length) :
    offD t a b k = distP (betwP t[a].Place t[b].Place (t[k].Moment - t[a].Moment) (t[b].Moment - t[a].Moment)) t[k].Place ∧ 0 ≤ t[k].Moment - t[a].Moment ∧ t[k].Moment - t[a].Moment ≤ t[b].Moment - t[a].Moment ∧ 1 ≤ t[b].Moment - t[a].Moment ∧ t[b].Moment - t[a].Moment ≤ 6311433599 := by
  unfold offD
  rw [getD_of (by omega : a < t.length), getD_of hb, getD_of (by omega : k < t.length)]
  have l1 := ht.lt h1 (by omega)
  have l2 := ht.lt h2 hb
  have m1 := ht.mom a (by omega)
  have m2 := ht.mom b hb
  exact ⟨rfl, by omega, by omega, by omega, by omega⟩

/-- The loop of a search for the farthest fix, whatever goes on behind it. -/
theorem far_loop {t : List T_where_Fix} {ρ : Type} {a b : Nat} (F : (Int × Int × Int → Option ρ) → Int × Int × Int → Option ρ) (J : Int → Option ρ)
    (more : ∀ next (s : Int × Int) (k : Nat), a < k → k < b → F next (s.1, s.2, (k : Int)) = next ((farF t a b s k).1, (farF t a b s k).2, (k : Int) + 1)) (stop : ∀ next (s : Int × Int) (k : Nat), b ≤ k → F next (s.1, s.2, (k : Int)) = J s.1) (m : Int) : fix F (-1, m, (a : Int) + 1) = J (farS t m a b) := by
  have key : ∀ n (k : Nat) (s : Int × Int), a < k → b - k = n → fix F (s.1, s.2, (k : Int)) = J (farGo t a b n k s).1 := by
    intro n
    induction n with
    | zero => intro k s _ h; exact fix_done fun next => stop next s k (by omega)
    | succ n ih =>
      intro k s h1 h2
      rw [fix_goto _ fun next => more next s k h1 (by omega)]
      exact ih (k + 1) (farF t a b s k) (by omega) (by omega)
  exact key (b - (a + 1)) (a + 1) (-1, m) (by omega) rfl

theorem simplify_eq {t : List T_where_Fix} (ht : TR t) {m : Int} {a b : Nat} {st : List Bool} (hab : a ≤ b) (hb : b < t.length) (hst : st.length = t.length) : where_simplify t a b m st = some (simGo t m (b - a) a b st) := by
  have hl := ht.len
  unfold where_simplify
  refine fix_of (F := fun (self : ((List T_where_Fix) × Int × Int × Int × (List Bool)) → Option ((List Bool))) (s : (List T_where_Fix) × Int × Int × Int × (List Bool)) => where_simplify_body self s.1 s.2.1 s.2.2.1 s.2.2.2.1 s.2.2.2.2)
    (fun s => some (simGo t m (s.2.2.1.toNat - s.2.1.toNat) s.2.1.toNat s.2.2.1.toNat s.2.2.2.2)) (fun s => s.1 = t ∧ 0 ≤ s.2.1 ∧ s.2.1 ≤ s.2.2.1 ∧ s.2.2.1 < t.length ∧ s.2.2.2.1 = m ∧ s.2.2.2.2.length = t.length) (fun s => (s.2.2.1 - s.2.1).toNat) ?_ (t, (a : Int), (b : Int), m, st) ⟨rfl, by simp, by simp; omega, by simp; omega, rfl, hst⟩
  rintro self ⟨t', a', b', m', st⟩ ⟨rfl, h0, h1, h2, rfl, h3⟩ ih
  simp only at h0 h1 h2 h3 ht
  obtain ⟨a, rfl⟩ := Int.eq_ofNat_of_zero_le h0
  obtain ⟨b, rfl⟩ := Int.eq_ofNat_of_zero_le (show 0 ≤ b' by omega)
  have hl' := ht.len
  have hb : b < t'.length := by omega
  have hab : a ≤ b := by omega
  show where_simplify_body self t' a b m' st = some (simGo t' m' (b - a) a b st)
  unfold where_simplify_body
  rw [gAt_nat (by omega : a < t'.length), bnd_pure, gAt_nat hb, bnd_pure, gI_ok (by omega), bnd_pure]
  rw [far_loop (t := t') (a := a) (b := b) _ (where_simplify_j1 t' a b m' st self) (fun next s k hk hkb => by
    show where_simplify_l2 t' a b m' st self t'[a] t'[b] next s.1 s.2 k = _
    obtain ⟨o1, o2, o3, o4, o5⟩ := off_eq ht hk hkb hb
    unfold where_simplify_l2 where_simplify_j3
    have ma := ht.mom a (by omega)
    have mk := ht.mom k (by omega)
    have mb := ht.mom b hb
    rw [cnd_if, if_pos (by omega), gAt_nat (by omega : k < t'.length), bnd_pure, gI_ok (by omega), bnd_pure, gI_ok (by omega), bnd_pure, between_eq (ht.pl _ _) (ht.pl _ _) ⟨o4, o5⟩ ⟨o2, o3⟩, bnd_pure, bnd_pure, dist_eq (ht.pl _ _) (betw_PL (ht.pl _ _) (ht.pl _ _) o4 ⟨o2, o3⟩), bnd_pure, dist_comm, ← o1, cnd_if, gI_ok (by omega), bnd_pure, bnd_pure]
    unfold farF
    split <;> rfl) (fun next s k hk => by
    show where_simplify_l2 t' a b m' st self t'[a] t'[b] next s.1 s.2 k = _
    unfold where_simplify_l2
    rw [cnd_if, if_neg (by omega)]) m']
  have hf := farS_in t' m' a b
  unfold where_simplify_j1
  rw [cnd_if]
  by_cases h : farS t' m' a b < 0
  · rw [if_pos h]
    by_cases hz : b - a = 0
    · rw [hz]; rfl
    · rw [show b - a = (b - a - 1) + 1 from by omega]
      simp only [simGo]
      rw [if_pos h]
  · rw [if_neg h]
    obtain ⟨k, hk⟩ := Int.eq_ofNat_of_zero_le (show 0 ≤ farS t' m' a b by omega)
    have hk1 : a < k ∧ k < b := by omega
    rw [show b - a = (b - a - 1) + 1 from by omega]
    simp only [simGo]
    rw [if_neg h, hk, gAt_nat (by omega : k < st.length), bnd_pure, gSet_ok (by omega) (by rw [Int.toNat_natCast]; omega), bnd_pure, Int.toNat_natCast]
    rw [ih (t', (a : Int), (k : Int), m', st.set k true) ⟨rfl, by simp only; omega, by simp only; omega, by simp only; omega, rfl, by simp only [List.length_set]; omega⟩ (by simp only; omega), bnd_pure]
    simp only [Int.toNat_natCast]
    rw [ih (t', (k : Int), (b : Int), m', simGo t' m' (k - a) a k (st.set k true)) ⟨rfl, by simp only; omega, by simp only; omega, by simp only; omega, rfl, by simp only [simGo_len, List.length_set]; omega⟩ (by simp only; omega), bnd_pure]
    simp only [Int.toNat_natCast]
    rw [simGo_fuel t' m' (k - a) (b - a - 1) a k _ (by omega) (by omega), simGo_fuel t' m' (b - k) (b - a - 1) k b _ (by omega) (by omega)]

theorem R_keep_eq {t : List T_where_Fix} (ht : TR t) {m : Int} {a b : Nat} {st : List Bool} (hab : a ≤ b) (hb : b < t.length) (hst : st.length = t.length) : R_SimpleOf_1 m t st a b = some (simGo t m (b - a) a b st) := by
  have hl := ht.len
  unfold R_SimpleOf_1
  refine fix_of (F := fun (self : (Int × (List T_where_Fix) × (List Bool) × Int × Int) → Option ((List Bool))) (s : Int × (List T_where_Fix) × (List Bool) × Int × Int) => R_SimpleOf_1_body self s.1 s.2.1 s.2.2.1 s.2.2.2.1 s.2.2.2.2)
    (fun s => some (simGo t m (s.2.2.2.2.toNat - s.2.2.2.1.toNat) s.2.2.2.1.toNat s.2.2.2.2.toNat s.2.2.1)) (fun s => s.2.1 = t ∧ 0 ≤ s.2.2.2.1 ∧ s.2.2.2.1 ≤ s.2.2.2.2 ∧ s.2.2.2.2 < t.length ∧ s.1 = m ∧ s.2.2.1.length = t.length) (fun s => (s.2.2.2.2 - s.2.2.2.1).toNat) ?_ (m, t, st, (a : Int), (b : Int)) ⟨rfl, by simp, by simp; omega, by simp; omega, rfl, hst⟩
  rintro self ⟨m', t', st, a', b'⟩ ⟨rfl, h0, h1, h2, rfl, h3⟩ ih
  simp only at h0 h1 h2 h3 ht
  obtain ⟨a, rfl⟩ := Int.eq_ofNat_of_zero_le h0
  obtain ⟨b, rfl⟩ := Int.eq_ofNat_of_zero_le (show 0 ≤ b' by omega)
  have hl' := ht.len
  have hb : b < t'.length := by omega
  have hab : a ≤ b := by omega
  show R_SimpleOf_1_body self m' t' st a b = some (simGo t' m' (b - a) a b st)
  unfold R_SimpleOf_1_body
  rw [gI_ok (by omega), bnd_pure]
  rw [far_loop (t := t') (a := a) (b := b) _ (R_SimpleOf_1_j1 m' t' st a b self) (fun next s k hk hkb => by
    show R_SimpleOf_1_l2 m' t' st a b self next s.1 s.2 k = _
    obtain ⟨o1, o2, o3, o4, o5⟩ := off_eq ht hk hkb hb
    unfold R_SimpleOf_1_l2 R_SimpleOf_1_j3
    have ma := ht.mom a (by omega)
    have mk := ht.mom k (by omega)
    have mb := ht.mom b hb
    rw [cnd_if, if_pos (by omega), gAt_nat (by omega : a < t'.length), bnd_pure, gAt_nat hb, bnd_pure, gAt_nat (by omega : k < t'.length), bnd_pure, bnd_pure, gI_ok (by omega), bnd_pure, bnd_pure, bnd_pure, gI_ok (by omega), bnd_pure, R_between_eq (ht.pl _ _) (ht.pl _ _) ⟨o4, o5⟩ ⟨o2, o3⟩, bnd_pure, bnd_pure, R_dist_eq (betw_PL (ht.pl _ _) (ht.pl _ _) o4 ⟨o2, o3⟩) (ht.pl _ _), bnd_pure, ← o1, cnd_if, gI_ok (by omega), bnd_pure, bnd_pure]
    unfold farF
    split <;> rfl) (fun next s k hk => by
    show R_SimpleOf_1_l2 m' t' st a b self next s.1 s.2 k = _
    unfold R_SimpleOf_1_l2
    rw [cnd_if, if_neg (by omega)]) m']
  have hf := farS_in t' m' a b
  unfold R_SimpleOf_1_j1
  rw [cnd_if]
  by_cases h : farS t' m' a b < 0
  · rw [if_neg (by omega)]
    by_cases hz : b - a = 0
    · rw [hz]; rfl
    · rw [show b - a = (b - a - 1) + 1 from by omega]
      simp only [simGo]
      rw [if_pos h]
  · rw [if_pos (by omega)]
    obtain ⟨k, hk⟩ := Int.eq_ofNat_of_zero_le (show 0 ≤ farS t' m' a b by omega)
    have hk1 : a < k ∧ k < b := by omega
    rw [show b - a = (b - a - 1) + 1 from by omega]
    simp only [simGo]
    rw [if_neg h, hk, gAt_nat (by omega : k < st.length), bnd_pure, gSet_ok (by omega) (by rw [Int.toNat_natCast]; omega), bnd_pure, Int.toNat_natCast]
    rw [ih (m', t', st.set k true, (a : Int), (k : Int)) ⟨rfl, by simp only; omega, by simp only; omega, by simp only; omega, rfl, by simp only [List.length_set]; omega⟩ (by simp only; omega), bnd_pure]
    simp only [Int.toNat_natCast]
    rw [ih (m', t', _, (k : Int), (b : Int)) ⟨rfl, by simp only; omega, by simp only; omega, by simp only; omega, rfl, by simp only [simGo_len, List.length_set]; omega⟩ (by simp only; omega), bnd_pure]
    simp only [Int.toNat_natCast]
    rw [simGo_fuel t' m' (k - a) (b - a - 1) a k _ (by omega) (by omega), simGo_fuel t' m' (b - k) (b - a - 1) k b _ (by omega) (by omega)]

/-! ### what stays -/

def staysF (s : List T_where_Fix) (x : T_where_Fix × Bool) : List T_where_Fix := if x.2 = true then s ++ [x.1] else s
def stays (t : List T_where_Fix) (st : List Bool) : List T_where_Fix := (t.zip st).foldl staysF []

theorem stays_len : ∀ (xs : List (T_where_Fix × Bool)) s, (xs.foldl staysF s).length ≤ s.length + xs.length
  | [], s => by simp
  | x :: xs, s => by
    rw [List.foldl_cons]
    have := stays_len xs (staysF s x)
    have h : (staysF s x).length ≤ s.length + 1 := by unfold staysF; split <;> simp
    simp only [List.length_cons]; omega

theorem stays_loop {ρ : Type} {t : List T_where_Fix} {st : List Bool} (ht : t.length ≤ 2000) (hst : st.length = t.length) (F : (Int × List T_where_Fix → Option ρ) → Int × List T_where_Fix → Option ρ) (J : List T_where_Fix → Option ρ)
    (more : ∀ next (k : Nat) (s : List T_where_Fix) (hk : k < t.length), s.length ≤ k → F next ((k : Int), s) = next ((k : Int) + 1, staysF s (t[k], st[k]'(by omega)))) (stop : ∀ next s, F next ((t.length : Int), s) = J s) : fix F (0, []) = J (stays t st) := by
  have hz : (t.zip st).length = t.length := by rw [List.length_zip]; omega
  refine fix_list (F := F) (t.zip st) staysF J (fun k s => s.length ≤ k) (fun next k s hk hI => ⟨?_, ?_⟩) (fun next s hI => ?_) [] (by simp)
  · rw [more next k s (by omega) hI, List.getElem_zip]
  · unfold staysF; split
    · simp; omega
    · omega
  · rw [hz]; exact stop next s

theorem where_stays {t : List T_where_Fix} {st : List Bool} (ht : t.length ≤ 2000) (hst : st.length = t.length) : where_Simple_j1 t st = some (stays t st, 0) := by
  unfold where_Simple_j1
  refine stays_loop ht hst _ (fun s => some (s, 0)) (fun next k s hk hs => ?_) fun next s => ?_
  · show where_Simple_l3 t st next k s = _
    unfold where_Simple_l3 where_Simple_j4 staysF
    rw [cnd_if, if_pos (by omega), gAt_nat hk, bnd_pure, gAt_nat (by omega : k < st.length), bnd_pure, gI_ok (by omega), bnd_pure]
    simp only
    cases st[k]'(by omega)
    · rfl
    · rw [gApp_ok (by simp only [List.length_singleton]; omega)]; rfl
  · show where_Simple_l3 t st next _ s = _
    unfold where_Simple_l3 where_Simple_j2
    rw [cnd_if, if_neg (by omega)]

theorem R_stays {t : List T_where_Fix} {st : List Bool} (ht : t.length ≤ 2000) (hst : st.length = t.length) : R_SimpleOf_j1 t st = some (stays t st) := by
  unfold R_SimpleOf_j1
  refine stays_loop ht hst _ (fun s => some s) (fun next k s hk hs => ?_) fun next s => ?_
  · show R_SimpleOf_l2 t st next k s = _
    unfold R_SimpleOf_l2 R_SimpleOf_j3 staysF
    rw [cnd_if, if_pos (by omega), gAt_nat hk, bnd_pure, gAt_nat (by omega : k < st.length), bnd_pure, gI_ok (by omega), bnd_pure]
    simp only
    cases st[k]'(by omega)
    · rfl
    · rw [gApp_ok (by simp only [List.length_singleton]; omega)]; rfl
  · show R_SimpleOf_l2 t st next _ s = _
    unfold R_SimpleOf_l2
    rw [cnd_if, if_neg (by omega)]

theorem simple_same {t : List T_where_Fix} (h : trackE t = 0) {m : Int} (hm : 0 ≤ m ∧ m ≤ 30000000) : ∃ r : List T_where_Fix, r.length ≤ 1000000 ∧ where_Simple t m = some (r, 0) ∧ R_SimpleOf t m = some r := by
  have ht := track_ok h
  have hl := ht.len
  unfold where_Simple R_SimpleOf
  have hmk : gMake 1 (t.length : Int) false = some (List.replicate t.length false) := by rw [gMake_ok (by omega), Int.toNat_natCast]
  rw [CheckTrack_eq, bnd_pure, h, cnd_if, if_neg (by decide), outside_eq, bnd_pure, decide_eq_false (by omega), cnd_false, hmk, bnd_pure, gI_ok (by omega), bnd_pure, bnd_pure, cnd_if, cnd_if]
  have len : ∀ st : List Bool, (stays t st).length ≤ 1000000 := fun st => by
    unfold stays
    have := stays_len (t.zip st) []
    rw [List.length_zip] at this
    simp only [List.length_nil] at this
    omega
  by_cases h0 : 0 < t.length
  · rw [if_pos (by omega), if_pos (by omega)]
    have g0 : gAt (List.replicate t.length false) 0 = some false := by
      have := gAt_nat (xs := List.replicate t.length false) (k := 0) (by simpa using h0)
      simpa using this
    have s0 : gSet (List.replicate t.length false) 0 true = some ((List.replicate t.length false).set 0 true) := gSet_ok (by omega) (by simpa using h0)
    obtain ⟨n, hn⟩ : ∃ n : Nat, (t.length : Int) - 1 = n := ⟨t.length - 1, by omega⟩
    have g1 : ∃ x, gAt ((List.replicate t.length false).set 0 true) ((t.length : Int) - 1) = some x := ⟨_, by rw [hn]; exact gAt_nat (by simp; omega)⟩
    obtain ⟨x, hx⟩ := g1
    have s1 : gSet ((List.replicate t.length false).set 0 true) ((t.length : Int) - 1) true = some (((List.replicate t.length false).set 0 true).set n true) := by
      rw [hn, gSet_ok (by omega) (by simp; omega), Int.toNat_natCast]
    have hstl : (((List.replicate t.length false).set 0 true).set n true).length = t.length := by simp
    rw [g0, bnd_pure, s0, bnd_pure, hx, bnd_pure, s1, bnd_pure, bnd_pure, bnd_pure, bnd_pure, hx, bnd_pure, s1, bnd_pure, bnd_pure]
    rw [hn]
    have e1 := simplify_eq ht (m := m) (a := 0) (b := n) (by omega) (by omega) hstl
    have e2 := R_keep_eq ht (m := m) (a := 0) (b := n) (by omega) (by omega) hstl
    rw [show ((0 : Nat) : Int) = 0 from rfl] at e1 e2
    rw [e1, e2, bnd_pure, bnd_pure]
    have hsl : (simGo t m (n - 0) 0 n (((List.replicate t.length false).set 0 true).set n true)).length = t.length := by rw [simGo_len, hstl]
    exact ⟨_, len _, where_stays hl hsl, R_stays hl hsl⟩
  · rw [if_neg (by omega), if_neg (by omega)]
    have hsl : (List.replicate t.length false).length = t.length := by simp
    exact ⟨_, len _, where_stays hl hsl, R_stays hl hsl⟩

theorem equal_fix (l : List T_where_Fix) (hl : l.length ≤ 1000000) : slices_Equal_where_Fix l l = some true := by
  unfold slices_Equal_where_Fix
  rw [cnd_if, if_neg (fun h => h rfl)]
  refine fix_upto (F := fun next1 s => slices_Equal_where_Fix_l1 l l next1 s) 0 l.length (Nat.zero_le _) (fun next k _ hk => ?_) fun next => ?_
  · show slices_Equal_where_Fix_l1 l l next k = _
    unfold slices_Equal_where_Fix_l1
    rw [cnd_if, if_pos (by omega), gAt_nat hk, bnd_pure, bnd_pure, show eq_where_Fix l[k] l[k] = true from by simp [eq_where_Fix], Bool.not_true, cnd_false, gI_ok (by omega), bnd_pure]
  · show slices_Equal_where_Fix_l1 l l next _ = _
    unfold slices_Equal_where_Fix_l1
    rw [cnd_if, if_neg (by omega)]

theorem listed_fix_ok {a c : List T_where_Fix} {b d : Int} (h : a = (if d = 0 then c else [])) (hb : b = d) (hl : a.length ≤ 1000000) : Law_listed_where_Fix a b c d = some true := by
  unfold Law_listed_where_Fix Law_listed_where_Fix_j1
  rw [cnd_if]
  by_cases h0 : d = 0
  · rw [if_neg (fun h => h h0)]
    rw [if_pos h0] at h
    rw [← h, equal_fix a hl, bnd_pure, cnd_true, decide_eq_true hb]
  · rw [if_pos h0]
    rw [if_neg h0] at h
    rw [← h, equal_fix a hl, bnd_pure, cnd_true, decide_eq_true hb]

theorem whereSimpleS (t : List T_where_Fix) (m : Int) {φ ψ : Prop} (_ : φ) (_ : ψ) : Law_WhereSimple t m = some true := by
  have fault : ∀ (x : List T_where_Fix × Int) (l : List T_where_Fix) (e : Int), x.1 = (if e = 0 then l else []) → x.2 = e → x.1.length ≤ 1000000 → Law_WhereSimple_j1 x e l = some true := by
    intro x l e h1 h2 h3
    unfold Law_WhereSimple_j1
    rw [listed_fix_ok h1 h2 h3, bnd_pure]
  unfold Law_WhereSimple
  rw [R_TrackFault_eq, metresFault_eq]
  by_cases h1 : trackE t = 0
  · by_cases h2 : 0 ≤ m ∧ m ≤ 30000000
    · obtain ⟨r, g1, g2, g3⟩ := simple_same h1 h2
      have hz : firstS [trackE t, metresS m] = 0 := by simp [firstS, h1, metresS, h2]
      rw [g2, bnd_pure, bnd_pure, bnd_pure, Law_first_eq _ (by simp), bnd_pure, hz, cnd_if, if_pos rfl, g3, bnd_pure]
      exact fault _ _ _ (by simp) rfl g1
    · have hz : firstS [trackE t, metresS m] = 2 := by simp [firstS, h1, metresS, h2]
      have : where_Simple t m = some ([], 2) := by
        unfold where_Simple
        rw [CheckTrack_eq, bnd_pure, h1, cnd_if, if_neg (by decide), outside_eq, bnd_pure, decide_eq_true (by omega), cnd_true]
      rw [this, bnd_pure, bnd_pure, bnd_pure, Law_first_eq _ (by simp), bnd_pure, hz, cnd_if, if_neg (by decide)]
      exact fault _ _ _ (by simp) rfl (by simp)
  · have hz : firstS [trackE t, metresS m] = trackE t := by simp [firstS, h1]
    have : where_Simple t m = some ([], trackE t) := by
      unfold where_Simple
      rw [CheckTrack_eq, bnd_pure, cnd_if, if_pos h1]
    rw [this, bnd_pure, bnd_pure, bnd_pure, Law_first_eq _ (by simp), bnd_pure, hz, cnd_if, if_neg h1]
    exact fault _ _ _ (by simp [h1]) rfl (by simp)

end Go.M
