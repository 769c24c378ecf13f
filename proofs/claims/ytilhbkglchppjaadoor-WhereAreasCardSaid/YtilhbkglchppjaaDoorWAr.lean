/- Areas; the law WhereAreas, in plain Lean. Conditions: none. -/
import Derived.Test.YtilhbkglchppjaaDoorWPa
import Derived.Test.YtilhbkglchppjaaDoorWAs
namespace Go.M
open Go.Md Go.Pl Go.Vc.Where

/-! ### names -/

def okC (c : UInt8) : Prop := (97 ≤ c.toNat ∧ c.toNat ≤ 122) ∨ (48 ≤ c.toNat ∧ c.toNat ≤ 57) ∨ c.toNat = 45
instance (c : UInt8) : Decidable (okC c) := by unfold okC; infer_instance
def nameB (s : List UInt8) : Bool := decide (s ≠ [] ∧ s.length ≤ 40 ∧ (∀ c, s.head? = some c → 97 ≤ c.toNat ∧ c.toNat ≤ 122) ∧ ∀ c ∈ s, okC c)

theorem name_step {s : List UInt8} (hs : s.length ≤ 1000) {k : Nat} (hk : k < s.length) (next : Int → Option Bool) : where_IsName_l1 s next (k : Int) = if okC s[k] then next ((k : Int) + 1) else some false := by
  have hj : where_IsName_j2 (k : Int) next = next ((k : Int) + 1) := by unfold where_IsName_j2; rw [gI_ok (by omega), bnd_pure]
  unfold where_IsName_l1
  rw [cnd_if, if_pos (by omega), gOct_nat hk, bnd_pure, hj]
  simp only [cnd_if]
  generalize hc : s[k] = c
  by_cases h : okC c
  · rw [if_pos h]
    unfold okC at h
    by_cases h1 : (97 : Int) ≤ c.toNat
    · rw [if_pos h1]
      by_cases h2 : (c.toNat : Int) ≤ 122
      · rw [if_pos h2]
      · omega
    · rw [if_neg h1]
      by_cases h2 : (48 : Int) ≤ c.toNat
      · rw [if_pos h2, if_pos (by omega)]
      · rw [if_neg h2]
        have : (c.toNat : Int) = 45 := by omega
        simp [this]
  · rw [if_neg h]
    unfold okC at h
    have h45 : ¬ (c.toNat : Int) = 45 := by omega
    by_cases h1 : (97 : Int) ≤ c.toNat
    · rw [if_pos h1, if_neg (by omega), if_pos (by omega), if_neg (by omega)]; simp [h45]
    · rw [if_neg h1]
      by_cases h2 : (48 : Int) ≤ c.toNat
      · rw [if_pos h2, if_neg (by omega)]; simp [h45]
      · rw [if_neg h2]; simp [h45]

theorem name_loop (s : List UInt8) (hs : s.length ≤ 1000) : fix (fun next1 t => where_IsName_l1 s next1 t) 0 = some (decide (∀ c ∈ s, okC c)) := by
  rw [up (F := fun next1 t => where_IsName_l1 s next1 t) s.length (fun k => some (decide (∀ c ∈ s.drop k, okC c))) (fun next k hk ih => ?_)]
  · simp
  · rcases Nat.lt_or_ge k s.length with h | h
    · show where_IsName_l1 s next (k : Int) = _
      rw [name_step hs h]
      have e : s.drop k = s[k] :: s.drop (k + 1) := List.drop_eq_getElem_cons h
      rw [e]
      by_cases ho : okC s[k]
      · rw [if_pos ho, ih h]; congr 1; rw [decide_eq_decide, List.forall_mem_cons]; exact ⟨fun h => ⟨ho, h⟩, fun h => h.2⟩
      · rw [if_neg ho]; congr 1; symm; rw [decide_eq_false_iff_not, List.forall_mem_cons]; exact fun h => ho h.1
    · show where_IsName_l1 s next (k : Int) = _
      unfold where_IsName_l1
      rw [cnd_if, if_neg (by omega), List.drop_of_length_le h]; simp

theorem IsName_eq (s : List UInt8) : where_IsName s = some (nameB s) := by
  unfold where_IsName nameB
  rw [cnd_if]
  by_cases h0 : s = []
  · subst h0; rfl
  · rw [if_neg h0, cnd_if]
    by_cases h1 : (40 : Int) < s.length
    · rw [if_pos h1]; congr 1; symm; rw [decide_eq_false_iff_not]; intro h; omega
    · rw [if_neg h1]
      obtain ⟨c, r, rfl⟩ : ∃ c r, s = c :: r := by cases s with | nil => exact absurd rfl h0 | cons c r => exact ⟨c, r, rfl⟩
      have e0 : gOct (c :: r) 0 = some (c.toNat : Int) := by rw [gOct_ok (by omega) (by simp)]; rfl
      rw [e0, bnd_pure, cnd_if]
      by_cases h2 : (c.toNat : Int) < 97
      · rw [if_pos h2]; congr 1; symm; rw [decide_eq_false_iff_not]; intro h; have := h.2.2.1 c rfl; omega
      · rw [if_neg h2, bnd_pure, cnd_if]
        by_cases h3 : (122 : Int) < c.toNat
        · rw [if_pos h3]; congr 1; symm; rw [decide_eq_false_iff_not]; intro h; have := h.2.2.1 c rfl; omega
        · rw [if_neg h3, name_loop _ (by omega)]
          congr 1
          rw [decide_eq_decide]
          constructor
          · intro h; exact ⟨h0, by omega, fun d hd => by simp at hd; subst hd; omega, h⟩
          · intro h; exact h.2.2.2

def nameCs : List UInt8 := [97, 98, 99, 100, 101, 102, 103, 104, 105, 106, 107, 108, 109, 110, 111, 112, 113, 114, 115, 116, 117, 118, 119, 120, 121, 122, 48, 49, 50, 51, 52, 53, 54, 55, 56, 57, 45]
theorem nameCs_iff (c : UInt8) : c ∈ nameCs ↔ okC c := by
  have key : ∀ n : Nat, n < 256 → (UInt8.ofNat n ∈ nameCs ↔ okC (UInt8.ofNat n)) := by decide +kernel
  have := key c.toNat c.toNat_lt
  rwa [UInt8.ofNat_toNat] at this

theorem NameOk_eq (s : List UInt8) : R_NameOk s = some (nameB s) := by
  unfold R_NameOk nameB
  rw [cnd_if]
  by_cases h0 : s = []
  · subst h0; rfl
  · rw [if_pos h0, cnd_if]
    by_cases h1 : (s.length : Int) ≤ 40
    · rw [if_pos h1]
      obtain ⟨c, r, rfl⟩ : ∃ c r, s = c :: r := by cases s with | nil => exact absurd rfl h0 | cons c r => exact ⟨c, r, rfl⟩
      have e0 : gOct (c :: r) 0 = some (c.toNat : Int) := by rw [gOct_ok (by omega) (by simp)]; rfl
      rw [e0, bnd_pure, cnd_if]
      by_cases h2 : (97 : Int) ≤ c.toNat
      · rw [if_pos h2, bnd_pure, cnd_if]
        by_cases h3 : (c.toNat : Int) ≤ 122
        · rw [if_pos h3]
          obtain ⟨t, ht, hi⟩ := trim_ok (cs := nameCs) (by decide) (by decide) (by decide) (c :: r) (by omega)
          rw [show strings_Trim (c :: r) [97, 98, 99, 100, 101, 102, 103, 104, 105, 106, 107, 108, 109, 110, 111, 112, 113, 114, 115, 116, 117, 118, 119, 120, 121, 122, 48, 49, 50, 51, 52, 53, 54, 55, 56, 57, 45] = some t from ht, bnd_pure]
          congr 1
          rw [decide_eq_decide, hi]
          constructor
          · intro h; exact ⟨h0, by omega, fun d hd => by simp at hd; subst hd; omega, fun d hd => (nameCs_iff d).1 (h d hd)⟩
          · intro h d hd; exact (nameCs_iff d).2 (h.2.2.2 d hd)
        · rw [if_neg h3]; congr 1; symm; rw [decide_eq_false_iff_not]; intro h; have := h.2.2.1 c rfl; omega
      · rw [if_neg h2]; congr 1; symm; rw [decide_eq_false_iff_not]; intro h; have := h.2.2.1 c rfl; omega
    · rw [if_neg h1]; congr 1; symm; rw [decide_eq_false_iff_not]; intro h; omega

/-! ### faults -/

theorem getD_ofA {α : Type} [Inhabited α] {t : List α} {k : Nat} (h : k < t.length) : t.getD k default = t[k] := getD_of h
theorem cmpL_length {α : Type} [DecidableEq α] (l : List α) : (cmpL l).length ≤ l.length := by
  have key : ∀ (l : List α) (p : α), (cmpFrom p l).length ≤ l.length := by
    intro l
    induction l with
    | nil => intro p; simp [cmpFrom]
    | cons y l ih =>
      intro p
      simp only [cmpFrom]
      split
      · have := ih p; simp only [List.length_cons]; omega
      · have := ih y; simp only [List.length_cons]; omega
  cases l with
  | nil => simp [cmpL]
  | cons y l => have := key l y; simp only [cmpL, List.length_cons]; omega

def plE (l : List T_api_Place) (k : Nat) : Int := placeS (l.getD k default).Lat (l.getD k default).Lon
theorem checkPlaces_eq (l : List T_api_Place) (hl : l.length ≤ 1000000) : where_checkPlaces l = some (firstE (plE l) l.length 0) := by
  unfold where_checkPlaces
  refine scan _ _ (fun next k hk => ?_) (fun next => ?_)
  · show where_checkPlaces_l1 l next (k : Int) = _
    unfold where_checkPlaces_l1 plE
    rw [cnd_if, if_pos (by omega), gAt_nat hk, bnd_pure, CheckPlace_eq, bnd_pure, cnd_if, getD_of hk]
    by_cases h0 : placeS l[k].Lat l[k].Lon = 0
    · rw [if_neg (by simpa using h0), if_pos h0, gI_ok (by omega), bnd_pure]
    · rw [if_pos h0, if_neg h0]
  · show where_checkPlaces_l1 l next _ = _
    unfold where_checkPlaces_l1
    rw [cnd_if, if_neg (by omega)]
theorem placesFault_eq (l : List T_api_Place) (hl : l.length ≤ 1000000) : R_placesFault l = some (firstE (plE l) l.length 0) := by
  unfold R_placesFault
  refine scan _ _ (fun next k hk => ?_) (fun next => ?_)
  · show R_placesFault_l1 l next (k : Int) = _
    unfold R_placesFault_l1 plE
    rw [cnd_if, if_pos (by omega), gAt_nat hk, bnd_pure, R_PlaceFault_eq, bnd_pure, cnd_if, getD_of hk]
    by_cases h0 : placeS l[k].Lat l[k].Lon = 0
    · rw [if_neg (by simpa using h0), if_pos h0, gI_ok (by omega), bnd_pure]
    · rw [if_pos h0, if_neg h0]
  · show R_placesFault_l1 l next _ = _
    unfold R_placesFault_l1
    rw [cnd_if, if_neg (by omega)]

def areaE (a : T_where_Area) : Int := if nameB a.Name = true then (if a.Ring.length < 3 ∨ 100 < a.Ring.length then 1 else firstE (plE a.Ring) a.Ring.length 0) else 3
theorem CheckArea_eq (a : T_where_Area) : where_CheckArea a = some (areaE a) := by
  unfold where_CheckArea areaE
  rw [IsName_eq, bnd_pure]
  cases nameB a.Name with
  | false => rfl
  | true =>
    rw [outside_eq, bnd_pure]
    show cnd (decide ((a.Ring.length : Int) < 3 ∨ 100 < (a.Ring.length : Int))) _ _ = _
    rw [cnd_if]
    by_cases h : a.Ring.length < 3 ∨ 100 < a.Ring.length
    · rw [if_pos (by omega), if_pos rfl, if_pos h]
    · rw [if_neg (by omega), if_pos rfl, if_neg h, checkPlaces_eq _ (by omega), bnd_pure]
theorem AreaFault_eq (a : T_where_Area) : R_AreaFault a = some (areaE a) := by
  unfold R_AreaFault areaE
  rw [NameOk_eq, bnd_pure]
  cases nameB a.Name with
  | false => rfl
  | true =>
    show cnd (decide ((a.Ring.length : Int) < 3)) _ _ = _
    rw [cnd_if, cnd_if]
    by_cases h1 : a.Ring.length < 3
    · rw [if_pos (by omega), if_pos rfl, if_pos (.inl h1)]
    · rw [if_neg (by omega)]
      by_cases h2 : 100 < a.Ring.length
      · rw [if_pos (by omega), if_pos rfl, if_pos (.inr h2)]
      · rw [if_neg (by omega), if_pos rfl, if_neg (by omega), placesFault_eq _ (by omega), bnd_pure]
theorem area_ok {a : T_where_Area} (h : areaE a = 0) : 3 ≤ a.Ring.length ∧ a.Ring.length ≤ 100 ∧ ∀ q ∈ a.Ring, PL q := by
  unfold areaE at h
  split at h
  · split at h
    · cases h
    · rename_i h1
      refine ⟨by omega, by omega, fun q hq => ?_⟩
      obtain ⟨k, hk, rfl⟩ := List.getElem_of_mem hq
      have := firstE_zero h k (by omega) (by omega)
      unfold plE at this
      rw [getD_of hk] at this
      exact PL_iff.1 this
  · cases h

/-! ### within -/

section
variable (f : Int) (p : T_api_Place)
def sideE (u v : T_api_Place) : Int := (shortS f p.Lon - shortS f u.Lon) * (v.Lat - u.Lat)
def hereE (u v : T_api_Place) : Int := (shortS f v.Lon - shortS f u.Lon) * (p.Lat - u.Lat)
def crossE (u v : T_api_Place) : Bool := !(decide ((decide (p.Lat < u.Lat)) = (decide (p.Lat < v.Lat)))) && ((decide (u.Lat < v.Lat) && decide (sideE f p u v < hereE f p u v)) || (decide (v.Lat < u.Lat) && decide (hereE f p u v < sideE f p u v)))
end
def nx (r : List T_api_Place) (i : Nat) : T_api_Place := r.getD (i % r.length) default
def edgeE (r : List T_api_Place) (p : T_api_Place) (i : Nat) : Bool := crossE (r.getD 0 default).Lon p (nx r i) (nx r (i + 1))
def cntE (r : List T_api_Place) (p : T_api_Place) : Nat → Nat
  | 0 => 0
  | k + 1 => cntE r p k + (if edgeE r p k = true then 1 else 0)
def withinB (a : T_where_Area) (p : T_api_Place) : Bool := decide (cntE a.Ring p a.Ring.length % 2 = 1)

theorem mul_bd2 {a b A B : Int} (ha : -A ≤ a ∧ a ≤ A) (hb : -B ≤ b ∧ b ≤ B) (hA : 0 ≤ A) : -(A * B) ≤ a * b ∧ a * b ≤ A * B := by
  rcases Int.le_total 0 b with h | h
  · exact mul_bd ha ⟨h, hb.2⟩ hA
  · have := mul_bd (a := a) (b := -b) (A := A) (B := B) ha (by omega) hA
    rw [Int.mul_neg] at this
    omega
theorem prods {f : Int} {p u v : T_api_Place} (hp : PL p) (hu : PL u) (hv : PL v) : (-1000000000000000000 ≤ sideE f p u v ∧ sideE f p u v ≤ 1000000000000000000) ∧ -1000000000000000000 ≤ hereE f p u v ∧ hereE f p u v ≤ 1000000000000000000 := by
  have b1 := short_bd f p.Lon; have b2 := short_bd f u.Lon; have b3 := short_bd f v.Lon
  obtain ⟨p1, p2⟩ := hp; obtain ⟨u1, u2⟩ := hu; obtain ⟨v1, v2⟩ := hv
  have h1 := mul_bd2 (A := 360000000) (B := 360000000) (a := shortS f p.Lon - shortS f u.Lon) (b := v.Lat - u.Lat) (by omega) (by omega) (by omega)
  have h2 := mul_bd2 (A := 360000000) (B := 360000000) (a := shortS f v.Lon - shortS f u.Lon) (b := p.Lat - u.Lat) (by omega) (by omega) (by omega)
  unfold sideE hereE
  omega

theorem cross_cond (f : Int) (p u v : T_api_Place) {ρ : Type} (x y : Option ρ) (hne : ¬ ((decide (p.Lat < u.Lat)) = (decide (p.Lat < v.Lat)))) :
    cnd (decide (u.Lat < v.Lat)) (cnd (decide (sideE f p u v < hereE f p u v)) x (cnd (decide (v.Lat < u.Lat)) (cnd (decide (hereE f p u v < sideE f p u v)) x y) y)) (cnd (decide (v.Lat < u.Lat)) (cnd (decide (hereE f p u v < sideE f p u v)) x y) y) = if crossE f p u v = true then x else y := by
  unfold crossE
  simp only [cnd_if]
  by_cases h1 : u.Lat < v.Lat
  · have h2 : ¬ v.Lat < u.Lat := by omega
    by_cases h3 : sideE f p u v < hereE f p u v <;> simp [h1, h2, h3, hne]
  · by_cases h2 : v.Lat < u.Lat
    · by_cases h3 : hereE f p u v < sideE f p u v <;> simp [h1, h2, h3, hne]
    · simp [h1, h2]
theorem cross_same {f : Int} {p u v : T_api_Place} (h : (decide (p.Lat < u.Lat)) = (decide (p.Lat < v.Lat))) : crossE f p u v = false := by simp [crossE, h]

theorem nx_lt {r : List T_api_Place} {i : Nat} (h : i < r.length) : nx r i = r[i] := by unfold nx; rw [Nat.mod_eq_of_lt h, getD_of h]
theorem edge_at {r : List T_api_Place} {p : T_api_Place} (h0 : 0 < r.length) (i : Nat) (u v : T_api_Place) (hu : nx r i = u) (hv : nx r (i + 1) = v) : edgeE r p i = crossE r[0].Lon p u v := by
  unfold edgeE; rw [hu, hv, getD_of h0]

/-- One round of the program's loop: the edge from the corner before. -/
theorem within_step {a : T_where_Area} {p : T_api_Place} (ha : areaE a = 0) (hp : PL p) {k : Nat} (hk : k < a.Ring.length) (h0 : 0 < a.Ring.length) (o : Bool) (next : Bool × Int → Option Bool) :
    where_within_l1 a p a.Ring[0] (shortS a.Ring[0].Lon p.Lon) next o (k : Int) = next ((if edgeE a.Ring p (k + a.Ring.length - 1) = true then !o else o), ((k + 1 : Nat) : Int)) := by
  obtain ⟨l1, l2, l3⟩ := area_ok ha
  have hj : ∀ x, where_within_j2 (k : Int) next x = next (x, ((k + 1 : Nat) : Int)) := fun x => by unfold where_within_j2; rw [gI_ok (by omega), bnd_pure]; rfl
  have hm : (((k : Int) + (a.Ring.length : Int) - 1).tmod (a.Ring.length : Int)) = (((k + a.Ring.length - 1) % a.Ring.length : Nat) : Int) := by
    rw [Int.tmod_eq_emod_of_nonneg (by omega)]
    rw [show (k : Int) + (a.Ring.length : Int) - 1 = ((k + a.Ring.length - 1 : Nat) : Int) from by omega]; rfl
  have hlt : (k + a.Ring.length - 1) % a.Ring.length < a.Ring.length := by exact Nat.mod_lt _ (by omega)
  unfold where_within_l1
  rw [cnd_if, if_pos (by omega), gAt_nat (by omega), bnd_pure, gI_ok (by omega), bnd_pure, gI_ok (by omega), bnd_pure, gRem_ok (by omega), bnd_pure, hm, gAt_nat hlt, bnd_pure]
  have hv := l3 _ (List.getElem_mem (show k < a.Ring.length by omega))
  have hu := l3 _ (List.getElem_mem hlt)
  have hf := l3 _ (List.getElem_mem (show 0 < a.Ring.length by omega))
  have he : edgeE a.Ring p (k + a.Ring.length - 1) = crossE a.Ring[0].Lon p a.Ring[(k + a.Ring.length - 1) % a.Ring.length] a.Ring[k] := by
    refine edge_at (by omega) _ _ _ ?_ ?_
    · unfold nx; rw [getD_of hlt]
    · unfold nx; rw [show k + a.Ring.length - 1 + 1 = k + a.Ring.length from by omega, Nat.add_mod_right, Nat.mod_eq_of_lt hk, getD_of (by omega)]
  generalize a.Ring[k] = v at *
  generalize a.Ring[(k + a.Ring.length - 1) % a.Ring.length] = u at *
  rw [he, cnd_if]
  by_cases hs : (decide (p.Lat < u.Lat)) = (decide (p.Lat < v.Lat))
  · rw [if_pos hs, hj, cross_same hs]; rfl
  · rw [if_neg hs, short_eq (f := a.Ring[0].Lon) (t := u.Lon) hf.2 hu.2, bnd_pure, short_eq (f := a.Ring[0].Lon) (t := v.Lon) hf.2 hv.2, bnd_pure]
    have b1 := short_bd a.Ring[0].Lon p.Lon; have b2 := short_bd a.Ring[0].Lon u.Lon; have b3 := short_bd a.Ring[0].Lon v.Lon
    have hpr := prods (f := a.Ring[0].Lon) hp hu hv
    have c1 := hp.1; have c2 := hu.1; have c3 := hv.1
    rw [gI_ok (by omega), bnd_pure, gI_ok (by omega), bnd_pure]
    show bnd (gI (sideE a.Ring[0].Lon p u v)) _ = _
    rw [gI_ok (by omega), bnd_pure, gI_ok (by omega), bnd_pure, gI_ok (by omega), bnd_pure]
    show bnd (gI (hereE a.Ring[0].Lon p u v)) _ = _
    rw [gI_ok (by omega), bnd_pure, cross_cond a.Ring[0].Lon p u v _ _ hs, hj, hj]
    split <;> rfl

/-- What the program has counted, as its parity. -/
def accE (r : List T_api_Place) (p : T_api_Place) : Nat → Bool
  | 0 => false
  | k + 1 => if edgeE r p (k + r.length - 1) = true then !accE r p k else accE r p k

theorem edge_mod (r : List T_api_Place) (p : T_api_Place) (i : Nat) : edgeE r p (i + r.length) = edgeE r p i := by
  unfold edgeE nx
  rw [Nat.add_mod_right, show i + r.length + 1 = i + 1 + r.length from by omega, Nat.add_mod_right]
theorem acc_eq (r : List T_api_Place) (p : T_api_Place) (h0 : 0 < r.length) (k : Nat) : accE r p (k + 1) = decide ((cntE r p k + (if edgeE r p (r.length - 1) = true then 1 else 0)) % 2 = 1) := by
  induction k with
  | zero =>
    simp only [accE, cntE, Nat.zero_add]
    cases edgeE r p (r.length - 1) <;> rfl
  | succ k ih =>
    rw [accE, ih, show k + 1 + r.length - 1 = k + r.length from by omega, edge_mod, cntE]
    cases edgeE r p k with
    | false => simp
    | true =>
      simp only [if_true]
      generalize (if edgeE r p (r.length - 1) = true then 1 else 0) = z
      rw [Bool.eq_iff_iff]
      simp
      omega

theorem within_eq {a : T_where_Area} {p : T_api_Place} (ha : areaE a = 0) (hp : PL p) : where_within a p = some (withinB a p) := by
  obtain ⟨l1, l2, l3⟩ := area_ok ha
  have h0 : 0 < a.Ring.length := by omega
  have hf := l3 _ (List.getElem_mem h0)
  unfold where_within
  rw [show gAt a.Ring 0 = some a.Ring[0] from gAt_nat h0, bnd_pure, short_eq hf.2 hp.2, bnd_pure]
  have := fix_way (F := fun next1 s => where_within_l1 a p a.Ring[0] (shortS a.Ring[0].Lon p.Lon) next1 s.1 s.2) (o := some (withinB a p)) (fun k => (accE a.Ring p k, (k : Int))) a.Ring.length (fun k hk next => by
    show where_within_l1 a p a.Ring[0] (shortS a.Ring[0].Lon p.Lon) next (accE a.Ring p k) (k : Int) = _
    rw [within_step ha hp hk h0]; rfl) (fun next => by
    show where_within_l1 a p a.Ring[0] (shortS a.Ring[0].Lon p.Lon) next (accE a.Ring p a.Ring.length) (a.Ring.length : Int) = _
    unfold where_within_l1
    rw [cnd_if, if_neg (by omega)]
    congr 1
    obtain ⟨m, hm⟩ : ∃ m, a.Ring.length = m + 1 := ⟨a.Ring.length - 1, by omega⟩
    unfold withinB
    have e := acc_eq a.Ring p h0 m
    rw [hm] at e ⊢
    rw [e]; rfl)
  exact this

theorem refstep {a : T_where_Area} {p : T_api_Place} (ha : areaE a = 0) (hp : PL p) {k c : Nat} (hk : k < a.Ring.length) (hc : c ≤ 1000) (next : Int × Int → Option Bool) :
    R_WithinOf_l2 a p next (c : Int) (k : Int) = next (((c + (if edgeE a.Ring p k = true then 1 else 0) : Nat) : Int), ((k + 1 : Nat) : Int)) := by
  obtain ⟨l1, l2, l3⟩ := area_ok ha
  have h0 : 0 < a.Ring.length := by omega
  have hj : ∀ x, R_WithinOf_j3 (k : Int) next x = next (x, ((k + 1 : Nat) : Int)) := fun x => by unfold R_WithinOf_j3; rw [gI_ok (by omega), bnd_pure]; rfl
  have hm : (((k : Int) + 1).tmod (a.Ring.length : Int)) = (((k + 1) % a.Ring.length : Nat) : Int) := by
    rw [Int.tmod_eq_emod_of_nonneg (by omega)]; rfl
  have hlt : (k + 1) % a.Ring.length < a.Ring.length := Nat.mod_lt _ h0
  have hf := l3 _ (List.getElem_mem h0)
  have sh : ∀ q, PL q → R_WithinOf_1 a q = some (shortS a.Ring[0].Lon q.Lon) := fun q hq => by
    unfold R_WithinOf_1
    rw [show gAt a.Ring 0 = some a.Ring[0] from gAt_nat h0, bnd_pure, R_short_eq hf.2 hq.2, bnd_pure]
  unfold R_WithinOf_l2
  rw [cnd_if, if_pos (by omega), gAt_nat hk, bnd_pure, gI_ok (by omega), bnd_pure, gRem_ok (by omega), bnd_pure, hm, gAt_nat hlt, bnd_pure]
  have hu := l3 _ (List.getElem_mem hk)
  have hv := l3 _ (List.getElem_mem hlt)
  have he : edgeE a.Ring p k = crossE a.Ring[0].Lon p a.Ring[k] a.Ring[(k + 1) % a.Ring.length] :=
    edge_at h0 _ _ _ (nx_lt hk) (by unfold nx; rw [getD_of hlt])
  generalize a.Ring[k] = u at *
  generalize a.Ring[(k + 1) % a.Ring.length] = v at *
  rw [he, cnd_if]
  by_cases hs : (decide (p.Lat < u.Lat)) = (decide (p.Lat < v.Lat))
  · rw [if_pos hs, hj, cross_same hs]; rfl
  · rw [if_neg hs, sh p hp, bnd_pure, sh u hu, bnd_pure]
    have b1 := short_bd a.Ring[0].Lon p.Lon; have b2 := short_bd a.Ring[0].Lon u.Lon; have b3 := short_bd a.Ring[0].Lon v.Lon
    have hpr := prods (f := a.Ring[0].Lon) hp hu hv
    have c1 := hp.1; have c2 := hu.1; have c3 := hv.1
    rw [gI_ok (by omega), bnd_pure, gI_ok (by omega), bnd_pure]
    show bnd (gI (sideE a.Ring[0].Lon p u v)) _ = _
    rw [gI_ok (by omega), bnd_pure, sh v hv, bnd_pure, bnd_pure, gI_ok (by omega), bnd_pure, gI_ok (by omega), bnd_pure]
    show bnd (gI (hereE a.Ring[0].Lon p u v)) _ = _
    rw [gI_ok (by omega), bnd_pure, gI_ok (by omega), bnd_pure, cross_cond a.Ring[0].Lon p u v _ _ hs, hj, hj]
    split <;> rfl

theorem cnt_le (r : List T_api_Place) (p : T_api_Place) : ∀ k, cntE r p k ≤ k
  | 0 => Nat.le_refl _
  | k + 1 => by have := cnt_le r p k; unfold cntE; split <;> omega
theorem WithinOf_eq {a : T_where_Area} {p : T_api_Place} (ha : areaE a = 0) (hp : PL p) : R_WithinOf a p = some (withinB a p) := by
  obtain ⟨l1, l2, l3⟩ := area_ok ha
  unfold R_WithinOf
  have := fix_way (F := fun next2 s => R_WithinOf_l2 a p next2 s.1 s.2) (o := some (withinB a p)) (fun k => ((cntE a.Ring p k : Int), (k : Int))) a.Ring.length (fun k hk next => by
    show R_WithinOf_l2 a p next (cntE a.Ring p k : Int) (k : Int) = _
    have := cnt_le a.Ring p k
    rw [refstep ha hp hk (by omega)]; rfl) (fun next => by
    show R_WithinOf_l2 a p next (cntE a.Ring p a.Ring.length : Int) (a.Ring.length : Int) = _
    unfold R_WithinOf_l2
    rw [cnd_if, if_neg (by omega)]
    unfold R_WithinOf_j1
    rw [gRem_ok (by omega), bnd_pure]
    congr 1
    unfold withinB
    rw [decide_eq_decide, Int.tmod_eq_emod_of_nonneg (by omega)]
    omega)
  exact this

theorem Within_eq (a : T_where_Area) (p : T_api_Place) : where_Within a p = some (decide (areaE a = 0 ∧ placeS p.Lat p.Lon = 0) && withinB a p, firstS [areaE a, placeS p.Lat p.Lon]) := by
  unfold where_Within
  rw [CheckArea_eq, bnd_pure, cnd_if]
  by_cases ha : areaE a = 0
  · rw [if_neg (by simpa using ha), CheckPlace_eq, bnd_pure, cnd_if]
    by_cases hp : placeS p.Lat p.Lon = 0
    · rw [if_neg (by simpa using hp), within_eq ha (PL_iff.1 hp), bnd_pure]; simp [firstS, ha, hp]
    · rw [if_pos hp]; simp [firstS, ha, hp]
  · rw [if_pos ha]; simp [firstS, ha]

/-! ### the law -/

def isA (p : T_api_Place) (a : T_where_Area) : Bool := decide (areaE a = 0 ∧ placeS p.Lat p.Lon = 0) && withinB a p
def W (l : List T_where_Area) (p : T_api_Place) (k : Nat) : List (List UInt8) := ((l.take k).filter (isA p)).map fun a => a.Name
theorem W_len (l : List T_where_Area) (p : T_api_Place) (k : Nat) : (W l p k).length ≤ k := by
  unfold W; rw [List.length_map]
  exact Nat.le_trans (List.length_filter_le _ _) (by rw [List.length_take]; omega)
theorem W_succ {l : List T_where_Area} {p : T_api_Place} {k : Nat} (hk : k < l.length) : W l p (k + 1) = if isA p l[k] = true then W l p k ++ [l[k].Name] else W l p k := by
  unfold W
  rw [List.take_add_one, List.getElem?_eq_getElem hk, Option.toList_some, List.filter_append, List.map_append]
  by_cases h : isA p l[k] = true <;> simp [h]

def faultA (l : List T_where_Area) (e : Int) : Nat → Int
  | 0 => e
  | k + 1 => if faultA l e k = 0 then areaE (l.getD k default) else faultA l e k

theorem faultA_succ (l : List T_where_Area) (e : Int) (k : Nat) : faultA l e (k + 1) = if faultA l e k = 0 then areaE (l.getD k default) else faultA l e k := rfl

theorem Equal_refl (l : List (List UInt8)) (hl : l.length ≤ 9000000000000000000) : slices_Equal_string l l = some true := by
  unfold slices_Equal_string
  rw [cnd_if, if_neg (by simp)]
  refine fix_way (fun k => (k : Int)) l.length (fun k hk next => ?_) (fun next => ?_)
  · show slices_Equal_string_l1 l l next (k : Int) = _
    unfold slices_Equal_string_l1
    rw [cnd_if, if_pos (by omega), gAt_nat hk, bnd_pure, bnd_pure, cnd_if, if_neg (by simp), gI_ok (by omega), bnd_pure]; rfl
  · show slices_Equal_string_l1 l l next (l.length : Int) = _
    unfold slices_Equal_string_l1
    rw [cnd_if, if_neg (by omega)]
theorem listed_ok {l w : List (List UInt8)} {e f : Int} (hl : l.length ≤ 9000000000000000000) (h0 : f = 0 → l = w) (h1 : f ≠ 0 → l = []) (he : e = f) : Law_listed_string l e w f = some true := by
  subst he
  have key : Law_listed_string_j1 l e e l = some true := by
    unfold Law_listed_string_j1; rw [Equal_refl l hl, bnd_pure, cnd_true]; simp
  unfold Law_listed_string
  rw [cnd_if]
  by_cases h : e ≠ 0
  · rw [if_pos h]; have := h1 h; subst this; exact key
  · rw [if_neg h, ← h0 (by simpa using h)]; exact key

theorem told_bool {v : Bool} {e : Int} (h : e ≠ 0 → v = false) : Law_told_bool v e v e = some true := by
  unfold Law_told_bool
  rw [cnd_if]
  split
  · rename_i h0; rw [h h0]; unfold Law_told_bool_j1; simp
  · unfold Law_told_bool_j1; simp

def outN (l : List T_where_Area) (p : T_api_Place) : List (List UInt8) := cmpL ((W l p l.length).mergeSort fun x y => decide (x ≤ y))

theorem Names_eq (l : List T_where_Area) (p : T_api_Place) (hl : l.length * 40 ≤ 140737488351232) :
    where_Names l p = some (if faultA l (firstS [placeS p.Lat p.Lon, if l.length ≤ 100 then 0 else 4]) l.length = 0 then outN l p else [], faultA l (firstS [placeS p.Lat p.Lon, if l.length ≤ 100 then 0 else 4]) l.length) := by
  have stay : ∀ e : Int, e ≠ 0 → ∀ k, faultA l e k = e := fun e he k => by
    induction k with
    | zero => rfl
    | succ k ih => rw [faultA_succ, ih, if_neg he]
  unfold where_Names
  rw [CheckPlace_eq, bnd_pure, cnd_if]
  by_cases hp : placeS p.Lat p.Lon = 0
  · rw [if_neg (by simpa using hp), cnd_if]
    by_cases hn : l.length ≤ 100
    · rw [if_neg (by omega)]
      have e0 : firstS [placeS p.Lat p.Lon, if l.length ≤ 100 then 0 else 4] = 0 := by simp [firstS, hp, hn]
      rw [e0]
      have spec : ∀ (m k : Nat), k + m = l.length → faultA l 0 k = 0 → fix (fun next2 s => where_Names_l2 l p next2 s.1 s.2) ((k : Int), W l p k) = some (if faultA l 0 l.length = 0 then outN l p else [], faultA l 0 l.length) := by
        intro m
        induction m with
        | zero =>
          intro k hk hf
          have : k = l.length := by omega
          subst this
          refine fix_done fun next => ?_
          show where_Names_l2 l p next (l.length : Int) (W l p l.length) = _
          unfold where_Names_l2
          rw [cnd_if, if_neg (by omega)]
          unfold where_Names_j1 gSortS
          have := W_len l p l.length
          rw [if_pos (by omega), bnd_pure]
          unfold gCmpS
          rw [if_pos (by rw [List.length_mergeSort]; omega), bnd_pure, hf, if_pos rfl]; rfl
        | succ m ih =>
          intro k hk hf
          have hlt : k < l.length := by omega
          have hj : ∀ next x, where_Names_j3 (k : Int) next x = next (((k + 1 : Nat) : Int), x) := fun next x => by unfold where_Names_j3; rw [gI_ok (by omega), bnd_pure]; rfl
          have hfk : faultA l 0 (k + 1) = areaE l[k] := by rw [faultA_succ, hf, if_pos rfl, getD_ofA hlt]
          by_cases ha : areaE l[k] = 0
          · rw [fix_goto (b := (((k + 1 : Nat) : Int), W l p (k + 1))) fun next => ?_]
            · exact ih (k + 1) (by omega) (by rw [hfk, ha])
            · show where_Names_l2 l p next (k : Int) (W l p k) = _
              unfold where_Names_l2
              rw [cnd_if, if_pos (by omega), gAt_nat hlt, bnd_pure, CheckArea_eq, bnd_pure, cnd_if, if_neg (by simpa using ha), within_eq ha (PL_iff.1 hp), bnd_pure, W_succ hlt]
              have hI : isA p l[k] = withinB l[k] p := by unfold isA; simp [ha, hp]
              rw [hI]
              have := W_len l p k
              cases withinB l[k] p with
              | true => rw [cnd_true, gApp_ok (by simp; omega), bnd_pure, hj]; rfl
              | false => rw [cnd_false, hj]; rfl
          · have hend : ∀ q, k + 1 ≤ q → faultA l 0 q = areaE l[k] := by
              intro q hq
              induction q with
              | zero => omega
              | succ q ihq =>
                rcases Nat.lt_or_ge k q with h | h
                · rw [faultA_succ, ihq (by omega), if_neg ha]
                · have : q = k := by omega
                  subst this; exact hfk
            rw [hend l.length (by omega), if_neg ha]
            refine fix_done fun next => ?_
            show where_Names_l2 l p next (k : Int) (W l p k) = _
            unfold where_Names_l2
            rw [cnd_if, if_pos (by omega), gAt_nat hlt, bnd_pure, CheckArea_eq, bnd_pure, cnd_if, if_pos ha]
      have := spec l.length 0 (by omega) rfl
      exact this
    · rw [if_pos (by omega)]
      have e0 : firstS [placeS p.Lat p.Lon, if l.length ≤ 100 then 0 else 4] = 4 := by simp [firstS, hp, hn]
      rw [e0, stay 4 (by decide)]; rfl
  · rw [if_pos hp]
    have e0 : firstS [placeS p.Lat p.Lon, if l.length ≤ 100 then 0 else 4] = placeS p.Lat p.Lon := by simp [firstS, hp]
    rw [e0, stay _ hp, if_neg hp]

theorem Within_isA (a : T_where_Area) (p : T_api_Place) : where_Within a p = some (isA p a, firstS [areaE a, placeS p.Lat p.Lon]) := Within_eq a p
theorem isA_ok {a : T_where_Area} {p : T_api_Place} (h : firstS [areaE a, placeS p.Lat p.Lon] = 0) : isA p a = withinB a p := by
  obtain ⟨h1, h2⟩ := first2 h
  unfold isA; simp [h1, h2]
theorem isA_no {a : T_where_Area} {p : T_api_Place} (h : ¬ firstS [areaE a, placeS p.Lat p.Lon] = 0) : isA p a = false := by
  unfold isA
  by_cases h1 : areaE a = 0
  · by_cases h2 : placeS p.Lat p.Lon = 0
    · exact absurd (by simp [firstS, h1, h2]) h
    · simp [h2]
  · simp [h1]
theorem fault_first {l : List T_where_Area} {E : Int} {k : Nat} (hk : k < l.length) : firstS [faultA l E k, areaE l[k]] = faultA l E (k + 1) := by
  rw [faultA_succ, getD_ofA hk]
  by_cases h : faultA l E k = 0
  · rw [if_pos h]
    simp only [firstS, if_pos h]
    by_cases h2 : areaE l[k] = 0
    · rw [if_pos h2, h2]
    · rw [if_neg h2]
  · rw [if_neg h]
    simp only [firstS, if_neg h]
theorem law_fin {l : List T_where_Area} {p : T_api_Place} (hlen : l.length * 40 ≤ 140737488351232) {k : Nat} (hk : k < l.length) (e : Int) (next : Int × Int × List (List UInt8) → Option Bool) :
    Law_WhereAreas_j4 (k : Int) (W l p k) next l[k] e (isA p l[k], firstS [areaE l[k], placeS p.Lat p.Lon]) (firstS [areaE l[k], placeS p.Lat p.Lon]) (isA p l[k]) = next (e, ((k + 1 : Nat) : Int), W l p (k + 1)) := by
  have hj : ∀ x y, Law_WhereAreas_j3 (k : Int) next x y = next (x, ((k + 1 : Nat) : Int), y) := fun x y => by unfold Law_WhereAreas_j3; rw [gI_ok (by omega), bnd_pure]; rfl
  have hlw := W_len l p k
  unfold Law_WhereAreas_j4
  rw [told_bool (fun h => isA_no h), bnd_pure]
  rw [show (!true) = false from rfl, cnd_false, W_succ hk]
  cases hb : isA p l[k] with
  | true => rw [cnd_true, gApp_ok (by simp; omega), bnd_pure, hj]; rfl
  | false => rw [cnd_false, hj]; rfl
theorem first_two (a b : Int) : Law_first [a, b] = some (firstS [a, b]) := Law_first_eq _ (by show 2 ≤ 1000000; decide)
theorem law_in (l : List T_where_Area) (p : T_api_Place) (E : Int) (R : List (List UInt8) × Int) {k : Nat} (hk : k < l.length) (next : Int × Int × List (List UInt8) → Option Bool) (e : Int) (w : List (List UInt8)) :
    Law_WhereAreas_l2 l p R next e (k : Int) w = cnd (decide (firstS [areaE l[k], placeS p.Lat p.Lon] = 0)) (bnd (R_WithinOf l[k] p) fun t62 => Law_WhereAreas_j4 (k : Int) w next l[k] (firstS [e, areaE l[k]]) (isA p l[k], firstS [areaE l[k], placeS p.Lat p.Lon]) (firstS [areaE l[k], placeS p.Lat p.Lon]) t62) (Law_WhereAreas_j4 (k : Int) w next l[k] (firstS [e, areaE l[k]]) (isA p l[k], firstS [areaE l[k], placeS p.Lat p.Lon]) (firstS [areaE l[k], placeS p.Lat p.Lon]) false) := by
  unfold Law_WhereAreas_l2
  rw [cnd_if, if_pos (by omega), gAt_nat hk, bnd_pure, AreaFault_eq, bnd_pure, first_two, bnd_pure, CheckArea_eq, bnd_pure, cnd_if, if_neg (fun h => h rfl), Within_isA, bnd_pure, R_PlaceFault_eq, bnd_pure, first_two, bnd_pure]
theorem law_step (l : List T_where_Area) (p : T_api_Place) (hlen : l.length * 40 ≤ 140737488351232) (E : Int) (R : List (List UInt8) × Int) {k : Nat} (hk : k < l.length) (next : Int × Int × List (List UInt8) → Option Bool) :
    Law_WhereAreas_l2 l p R next (faultA l E k) (k : Int) (W l p k) = next (faultA l E (k + 1), ((k + 1 : Nat) : Int), W l p (k + 1)) := by
  have fin := law_fin (p := p) hlen hk (faultA l E (k + 1)) next
  rw [law_in l p E R hk, fault_first hk, cnd_if]
  by_cases h : firstS [areaE l[k], placeS p.Lat p.Lon] = 0
  · obtain ⟨h1, h2⟩ := first2 h
    rw [if_pos h, WithinOf_eq h1 (PL_iff.1 h2), bnd_pure, ← isA_ok h]
    exact fin
  · rw [if_neg h]
    rw [isA_no h] at fin ⊢
    exact fin

theorem law_last (l : List T_where_Area) (p : T_api_Place) (hlen : l.length * 40 ≤ 140737488351232) (E : Int) (next : Int × Int × List (List UInt8) → Option Bool) :
    Law_WhereAreas_l2 l p (if faultA l E l.length = 0 then outN l p else [], faultA l E l.length) next (faultA l E l.length) (l.length : Int) (W l p l.length) = some true := by
  unfold Law_WhereAreas_l2
  rw [cnd_if, if_neg (by omega)]
  unfold Law_WhereAreas_j1 gSortS
  have hw := W_len l p l.length
  rw [if_pos (by omega), bnd_pure]
  unfold gCmpS
  rw [if_pos (by rw [List.length_mergeSort]; omega), bnd_pure]
  have hc : (outN l p).length ≤ 9000000000000000000 := by
    have h1 := cmpL_length ((W l p l.length).mergeSort fun x y => decide (x ≤ y))
    rw [List.length_mergeSort] at h1
    unfold outN; omega
  rw [listed_ok (w := cmpL ((W l p l.length).mergeSort fun x y => decide (x ≤ y)))]
  · rfl
  · show (if faultA l E l.length = 0 then outN l p else []).length ≤ _
    split
    · exact hc
    · simp
  · intro h; show (if faultA l E l.length = 0 then outN l p else []) = _; rw [if_pos h]; rfl
  · intro h; show (if faultA l E l.length = 0 then outN l p else []) = _; rw [if_neg h]
  · rfl

theorem whereAreasS (l : List T_where_Area) (p : T_api_Place) {φ : T_where_Area → Prop} {ψ : Prop} (hl : (l.length ≤ 9223372036854775807 ∧ l.length * 40 ≤ 140737488351232) ∧ ∀ x ∈ l, φ x) (_ : ψ) : Law_WhereAreas l p = some true := by
  have hlen := hl.1.2
  unfold Law_WhereAreas
  rw [Names_eq l p hlen, bnd_pure, R_PlaceFault_eq, bnd_pure, unless_eq, bnd_pure, Law_first_eq _ (by simp), bnd_pure]
  have e1 : (if (decide ((l.length : Int) ≤ 100)) = true then (0 : Int) else 4) = if l.length ≤ 100 then 0 else 4 := by
    by_cases h : l.length ≤ 100
    · rw [if_pos h, if_pos (by simpa using (by omega : (l.length : Int) ≤ 100))]
    · rw [if_neg h, if_neg (by simpa using (by omega : ¬ (l.length : Int) ≤ 100))]
  rw [e1]
  generalize firstS [placeS p.Lat p.Lon, if l.length ≤ 100 then 0 else 4] = E
  generalize hR : ((if faultA l E l.length = 0 then outN l p else [], faultA l E l.length) : List (List UInt8) × Int) = R
  refine fix_way (fun k => (faultA l E k, (k : Int), W l p k)) l.length (fun k hk next => ?_) (fun next => ?_)
  · exact law_step l p hlen E R hk next
  · rw [← hR]; exact law_last l p hlen E next
end Go.M
