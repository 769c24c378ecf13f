/- The law WhereSimple in plain Lean: what Simple is, and what the reference has. Conditions: none. -/
import Derived.Test.YtcfckcchalpkdaaDoorWStp
namespace Go.M
open Go.Md Go.Pl Go.Vc.Where

/-- How far a fix is from the straight way. -/
def offD (t : List T_where_Fix) (a b k : Nat) : Int :=
  distP (betwP (t.getD a default).Place (t.getD b default).Place ((t.getD k default).Moment - (t.getD a default).Moment) ((t.getD b default).Moment - (t.getD a default).Moment)) (t.getD k default).Place
def farF (t : List T_where_Fix) (a b : Nat) (s : Int × Int) (k : Nat) : Int × Int := if s.2 < offD t a b k then ((k : Int), offD t a b k) else s
def farGo (t : List T_where_Fix) (a b : Nat) : Nat → Nat → Int × Int → Int × Int
  | 0, _, s => s
  | n + 1, k, s => farGo t a b n (k + 1) (farF t a b s k)
def farS (t : List T_where_Fix) (m : Int) (a b : Nat) : Int := (farGo t a b (b - (a + 1)) (a + 1) (-1, m)).1

theorem farGo_in (t : List T_where_Fix) (a b : Nat) : ∀ n k s, k + n ≤ b → a < k → (s.1 = -1 ∨ (a : Int) < s.1 ∧ s.1 < (b : Int)) → ((farGo t a b n k s).1 = -1 ∨ (a : Int) < (farGo t a b n k s).1 ∧ (farGo t a b n k s).1 < (b : Int))
  | 0, _, _, _, _, h => h
  | n + 1, k, s, h1, h2, h => by
    refine farGo_in t a b n (k + 1) _ (by omega) (by omega) ?_
    unfold farF
    split
    · right; simp only; omega
    · exact h

theorem farS_in (t : List T_where_Fix) (m : Int) (a b : Nat) : farS t m a b = -1 ∨ (a : Int) < farS t m a b ∧ farS t m a b < (b : Int) := by
  unfold farS
  by_cases h : a + 1 ≤ b
  · exact farGo_in t a b _ _ _ (by omega) (by omega) (.inl rfl)
  · rw [show b - (a + 1) = 0 from by omega]; exact .inl rfl

/-- The marks. -/
def simGo (t : List T_where_Fix) (m : Int) : Nat → Nat → Nat → List Bool → List Bool
  | 0, _, _, st => st
  | n + 1, a, b, st => if farS t m a b < 0 then st else simGo t m n (farS t m a b).toNat b (simGo t m n a (farS t m a b).toNat (st.set (farS t m a b).toNat true))

theorem simGo_len (t : List T_where_Fix) (m : Int) : ∀ n a b st, (simGo t m n a b st).length = st.length
  | 0, _, _, _ => rfl
  | n + 1, a, b, st => by
    simp only [simGo]
    split
    · rfl
    · rw [simGo_len t m n, simGo_len t m n, List.length_set]

theorem simGo_fuel (t : List T_where_Fix) (m : Int) : ∀ n n' a b st, b - a ≤ n → b - a ≤ n' → simGo t m n a b st = simGo t m n' a b st := by
  have zero : ∀ n a b st, b - a = 0 → simGo t m n a b st = st := by
    intro n a b st h
    cases n with
    | zero => rfl
    | succ n =>
      simp only [simGo]
      have := farS_in t m a b
      rw [if_pos (by omega)]
  intro n
  induction n with
  | zero => intro n' a b st h1 h2; rw [zero n' a b st (by omega), zero 0 a b st (by omega)]
  | succ n ih =>
    intro n' a b st h1 h2
    cases n' with
    | zero => rw [zero _ a b st (by omega), zero 0 a b st (by omega)]
    | succ n' =>
      simp only [simGo]
      have hf := farS_in t m a b
      split
      · rfl
      · rw [ih n' a _ _ (by omega) (by omega), ih n' _ b _ (by omega) (by omega)]

theorem off_eq {t : List T_where_Fix} (ht : TR t) {a b k : Nat} (h1 : a < k) (h2 : k < b) (hb : b < t.length) :
    offD t a b k = distP (betwP t[a].Place t[b].Place (t[k].Moment - t[a].Moment) (t[b].Moment - t[a].Moment)) t[k].Place ∧ 0 ≤ t[k].Moment - t[a].Moment ∧ t[k].Moment - t[a].Moment ≤ t[b].Moment - t[a].Moment ∧ 1 ≤ t[b].Moment - t[a].Moment ∧ t[b].Moment - t[a].Moment ≤ 6311433599 := by
  unfold offD
  rw [getD_of (by omega : a < t.length), getD_of hb, getD_of (by omega : k < t.length)]
  have l1 := ht.lt h1 (by omega)
  have l2 := ht.lt h2 hb
  have m1 := ht.mom a (by omega)
  have m2 := ht.mom b hb
  exact ⟨rfl, by omega, by omega, by omega, by omega⟩

/-- The loop of a search for the farthest fix, whatever goes on behind it. -/
theorem far_loop {t : List T_where_Fix} {ρ : Type} {a b : Nat} (F : (Int × Int × Int → Option ρ) → Int × Int × Int → Option ρ) (J : Int → Option ρ)
    (more : ∀ next (s : Int × Int) (k : Nat), a < k → k < b → F next (s.1, s.2, (k : Int)) = next ((farF t a b s k).1, (farF t a b s k).2, (k : Int) + 1)) (stop : ∀ next (s : Int × Int) (k : Nat), b ≤ k → F next (s.1, s.2, (k : Int)) = J s.1) (m : Int) : fix F (-1, m, (a : Int) + 1) = J (farS t m a b) := by
  have key : ∀ n (k : Nat) (s : Int × Int), a < k → b - k = n → fix F (s.1, s.2, (k : Int)) = J (farGo t a b n k s).1 := by
    intro n
    induction n with
    | zero => intro k s _ h; exact fix_done fun next => stop next s k (by omega)
    | succ n ih =>
      intro k s h1 h2
      rw [fix_goto _ fun next => more next s k h1 (by omega)]
      exact ih (k + 1) (farF t a b s k) (by omega) (by omega)
  exact key (b - (a + 1)) (a + 1) (-1, m) (by omega) rfl

theorem simplify_eq {t : List T_where_Fix} (ht : TR t) {m : Int} {a b : Nat} {st : List Bool} (hab : a ≤ b) (hb : b < t.length) (hst : st.length = t.length) : where_simplify t a b m st = some (simGo t m (b - a) a b st) := by
  have hl := ht.len
  unfold where_simplify
  refine fix_of (F := fun (self : ((List T_where_Fix) × Int × Int × Int × (List Bool)) → Option ((List Bool))) (s : (List T_where_Fix) × Int × Int × Int × (List Bool)) => where_simplify_body self s.1 s.2.1 s.2.2.1 s.2.2.2.1 s.2.2.2.2)
    (fun s => some (simGo t m (s.2.2.1.toNat - s.2.1.toNat) s.2.1.toNat s.2.2.1.toNat s.2.2.2.2)) (fun s => s.1 = t ∧ 0 ≤ s.2.1 ∧ s.2.1 ≤ s.2.2.1 ∧ s.2.2.1 < t.length ∧ s.2.2.2.1 = m ∧ s.2.2.2.2.length = t.length) (fun s => (s.2.2.1 - s.2.1).toNat) ?_ (t, (a : Int), (b : Int), m, st) ⟨rfl, by simp, by simp; omega, by simp; omega, rfl, hst⟩
  rintro self ⟨t', a', b', m', st⟩ ⟨rfl, h0, h1, h2, rfl, h3⟩ ih
  simp only at h0 h1 h2 h3 ht
  obtain ⟨a, rfl⟩ := Int.eq_ofNat_of_zero_le h0
  obtain ⟨b, rfl⟩ := Int.eq_ofNat_of_zero_le (show 0 ≤ b' by omega)
  have hl' := ht.len
  have hb : b < t'.length := by omega
  have hab : a ≤ b := by omega
  show where_simplify_body self t' a b m' st = some (simGo t' m' (b - a) a b st)
  unfold where_simplify_body
  rw [gAt_nat (by omega : a < t'.length), bnd_pure, gAt_nat hb, bnd_pure, gI_ok (by omega), bnd_pure]
  rw [far_loop (t := t') (a := a) (b := b) _ (where_simplify_j1 t' a b m' st self) (fun next s k hk hkb => by
    show where_simplify_l2 t' a b m' st self t'[a] t'[b] next s.1 s.2 k = _
    obtain ⟨o1, o2, o3, o4, o5⟩ := off_eq ht hk hkb hb
    unfold where_simplify_l2 where_simplify_j3
    have ma := ht.mom a (by omega)
    have mk := ht.mom k (by omega)
    have mb := ht.mom b hb
    rw [cnd_if, if_pos (by omega), gAt_nat (by omega : k < t'.length), bnd_pure, gI_ok (by omega), bnd_pure, gI_ok (by omega), bnd_pure, between_eq (ht.pl _ _) (ht.pl _ _) ⟨o4, o5⟩ ⟨o2, o3⟩, bnd_pure, bnd_pure, dist_eq (ht.pl _ _) (betw_PL (ht.pl _ _) (ht.pl _ _) o4 ⟨o2, o3⟩), bnd_pure, dist_comm, ← o1, cnd_if, gI_ok (by omega), bnd_pure, bnd_pure]
    unfold farF
    split <;> rfl) (fun next s k hk => by
    show where_simplify_l2 t' a b m' st self t'[a] t'[b] next s.1 s.2 k = _
    unfold where_simplify_l2
    rw [cnd_if, if_neg (by omega)]) m']
  have hf := farS_in t' m' a b
  unfold where_simplify_j1
  rw [cnd_if]
  by_cases h : farS t' m' a b < 0
  · rw [if_pos h]
    by_cases hz : b - a = 0
    · rw [hz]; rfl
    · rw [show b - a = (b - a - 1) + 1 from by omega]
      simp only [simGo]
      rw [if_pos h]
  · rw [if_neg h]
    obtain ⟨k, hk⟩ := Int.eq_ofNat_of_zero_le (show 0 ≤ farS t' m' a b by omega)
    have hk1 : a < k ∧ k < b := by omega
    rw [show b - a = (b - a - 1) + 1 from by omega]
    simp only [simGo]
    rw [if_neg h, hk, gAt_nat (by omega : k < st.length), bnd_pure, gSet_ok (by omega) (by rw [Int.toNat_natCast]; omega), bnd_pure, Int.toNat_natCast]
    rw [ih (t', (a : Int), (k : Int), m', st.set k true) ⟨rfl, by simp only; omega, by simp only; omega, by simp only; omega, rfl, by simp only [List.length_set]; omega⟩ (by simp only; omega), bnd_pure]
    simp only [Int.toNat_natCast]
    rw [ih (t', (k : Int), (b : Int), m', simGo t' m' (k - a) a k (st.set k true)) ⟨rfl, by simp only; omega, by simp only; omega, by simp only; omega, rfl, by simp only [simGo_len, List.length_set]; omega⟩ (by simp only; omega), bnd_pure]
    simp only [Int.toNat_natCast]
    rw [simGo_fuel t' m' (k - a) (b - a - 1) a k _ (by omega) (by omega), simGo_fuel t' m' (b - k) (b - a - 1) k b _ (by omega) (by omega)]

/-! ### what stays -/

def staysF (s : List T_where_Fix) (x : T_where_Fix × Bool) : List T_where_Fix := if x.2 = true then s ++ [x.1] else s
def stays (t : List T_where_Fix) (st : List Bool) : List T_where_Fix := (t.zip st).foldl staysF []

theorem stays_len : ∀ (xs : List (T_where_Fix × Bool)) s, (xs.foldl staysF s).length ≤ s.length + xs.length
  | [], s => by simp
  | x :: xs, s => by
    rw [List.foldl_cons]
    have := stays_len xs (staysF s x)
    have h : (staysF s x).length ≤ s.length + 1 := by unfold staysF; split <;> simp
    simp only [List.length_cons]; omega

theorem stays_loop {ρ : Type} {t : List T_where_Fix} {st : List Bool} (ht : t.length ≤ 2000) (hst : st.length = t.length) (F : (Int × List T_where_Fix → Option ρ) → Int × List T_where_Fix → Option ρ) (J : List T_where_Fix → Option ρ)
    (more : ∀ next (k : Nat) (s : List T_where_Fix) (hk : k < t.length), s.length ≤ k → F next ((k : Int), s) = next ((k : Int) + 1, staysF s (t[k], st[k]'(by omega)))) (stop : ∀ next s, F next ((t.length : Int), s) = J s) : fix F (0, []) = J (stays t st) := by
  have hz : (t.zip st).length = t.length := by rw [List.length_zip]; omega
  refine fix_list (F := F) (t.zip st) staysF J (fun k s => s.length ≤ k) (fun next k s hk hI => ⟨?_, ?_⟩) (fun next s hI => ?_) [] (by simp)
  · rw [more next k s (by omega) hI, List.getElem_zip]
  · unfold staysF; split
    · simp; omega
    · omega
  · rw [hz]; exact stop next s

theorem where_stays {t : List T_where_Fix} {st : List Bool} (ht : t.length ≤ 2000) (hst : st.length = t.length) : where_Simple_j1 t st = some (stays t st, 0) := by
  unfold where_Simple_j1
  refine stays_loop ht hst _ (fun s => some (s, 0)) (fun next k s hk hs => ?_) fun next s => ?_
  · show where_Simple_l3 t st next k s = _
    unfold where_Simple_l3 where_Simple_j4 staysF
    rw [cnd_if, if_pos (by omega), gAt_nat hk, bnd_pure, gAt_nat (by omega : k < st.length), bnd_pure, gI_ok (by omega), bnd_pure]
    simp only
    cases st[k]'(by omega)
    · rfl
    · rw [gApp_ok (by simp only [List.length_singleton]; omega)]; rfl
  · show where_Simple_l3 t st next _ s = _
    unfold where_Simple_l3 where_Simple_j2
    rw [cnd_if, if_neg (by omega)]

end Go.M
