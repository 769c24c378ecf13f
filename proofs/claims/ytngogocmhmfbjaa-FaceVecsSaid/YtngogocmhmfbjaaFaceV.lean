/- The law FaceVecs in plain Lean: what the models of package face and of its reference compute. Conditions: none. -/
import Derived.Test.YtngogocmhmfbjaaPl
import Derived.Test.YtngogocmhmfbjaaMFace
namespace Go.M
open Go.Md Go.Pl

def okN (x : Int) : Bool := decide (-127 ≤ x ∧ x ≤ 127)
theorem okN_iff {x : Int} : okN x = true ↔ -127 ≤ x ∧ x ≤ 127 := by simp [okN]
def c12 (v : Nat → Int) (j : Nat) : Int := if okN (v j) = true then 0 else 2
def vecF (v : Nat → Int) : Int := firstE (c12 v) 12 0

theorem outside_eq (a b c : Int) : face_outside a b c = some (decide (a < b ∨ c < a)) := by
  unfold face_outside
  rw [cnd_if]; by_cases h : a < b <;> simp [h]

theorem R_VecFault_eq (v : Nat → Int) : R_VecFault v = some (vecF v) := by
  unfold R_VecFault vecF
  refine scan 12 _ (fun next k hk => ?_) fun next => ?_
  · unfold R_VecFault_l1 c12
    by_cases h : okN (v k) = true
    · have h' := okN_iff.1 h
      rw [if_pos h]
      simp (disch := omega) only [cnd_if, gI_ok, gIx_nat, bnd_pure, if_pos, if_neg, if_true]
    · have h' : ¬ (-127 ≤ v k ∧ v k ≤ 127) := fun hh => h (okN_iff.2 hh)
      rw [if_neg h]
      by_cases h2 : v k < -127 <;> simp (disch := omega) only [cnd_if, gI_ok, gIx_nat, bnd_pure, if_pos, if_neg]
  · unfold R_VecFault_l1
    rfl

theorem face_CheckVec_eq (v : Nat → Int) : face_CheckVec v = some (vecF v) := by
  unfold face_CheckVec vecF
  refine scan 12 _ (fun next k hk => ?_) fun next => ?_
  · unfold face_CheckVec_l1 c12
    by_cases h : okN (v k) = true
    · have h' := okN_iff.1 h
      rw [if_pos h]
      simp (disch := omega) only [cnd_if, gI_ok, gIx_nat, bnd_pure, outside_eq, if_pos, if_neg, if_true]
    · have h' : ¬ (-127 ≤ v k ∧ v k ≤ 127) := fun hh => h (okN_iff.2 hh)
      rw [if_neg h]
      simp (disch := omega) only [cnd_if, gI_ok, gIx_nat, bnd_pure, outside_eq, if_pos, if_neg]
  · unfold face_CheckVec_l1
    rfl

theorem vecF_ok {w : Nat → Int} (h : vecF w = 0) (j : Nat) (hj : j < 12) : -127 ≤ w j ∧ w j ≤ 127 := by
  have := firstE_zero h j (by omega) (by omega)
  unfold c12 at this
  by_cases hh : okN (w j) = true
  · exact okN_iff.1 hh
  · rw [if_neg hh] at this; cases this

theorem far_some (u v : Nat → Int) (hu : vecF u = 0) (hv : vecF v = 0) : ∃ r, face_far u v = some r := by
  have hsq : ∀ j, j < 12 → 0 ≤ (u j - v j) * (u j - v j) ∧ (u j - v j) * (u j - v j) ≤ 64516 := by
    intro j hj
    have h1 := vecF_ok hu j hj
    have h2 := vecF_ok hv j hj
    generalize hx : u j - v j = x
    have hx : -254 ≤ x ∧ x ≤ 254 := by omega
    refine ⟨?_, ?_⟩
    · rcases Int.le_total 0 x with h0 | h0
      · exact Int.mul_nonneg h0 h0
      · exact Int.mul_nonneg_of_nonpos_of_nonpos h0 h0
    · rcases Int.le_total 0 x with h0 | h0
      · have := Int.mul_le_mul hx.2 hx.2 h0 (by omega); omega
      · have := Int.mul_le_mul (show -x ≤ 254 by omega) (show -x ≤ 254 by omega) (by omega) (by omega)
        rw [Int.neg_mul_neg] at this; omega
  let S : Nat → Int → Int := fun k s => (List.range' k (12 - k)).foldl (fun s j => s + (u j - v j) * (u j - v j)) s
  refine ⟨S 0 0, ?_⟩
  unfold face_far
  refine up2r (σ := Int) 12 (fun k s => some (S k s)) (fun k s => 0 ≤ s ∧ s ≤ k * 64516) (fun next k s hk hI ih => ?_) 0 (by simp)
  unfold face_far_l1
  by_cases h : k < 12
  · have h1 := vecF_ok hu k h
    have h2 := vecF_ok hv k h
    have h3 := hsq k h
    simp (disch := omega) only [cnd_if, gI_ok, gIx_nat, bnd_pure, if_pos, if_neg]
    rw [ih _ h (by omega)]
    show some (S (k + 1) _) = some (S k s)
    simp only [S]
    rw [show 12 - k = (12 - (k + 1)) + 1 from by omega, List.range'_succ, List.foldl_cons]
  · have : k = 12 := by omega
    subst this
    rfl

theorem R_FarOf_eq : R_FarOf = face_far := rfl

theorem first_eq (l : List Int) (hl : l.length ≤ 9223372036854775807) : Law_first l = some (firstE (fun j => l.getD j 0) l.length 0) := by
  unfold Law_first
  refine scan l.length _ (fun next k hk => ?_) fun next => ?_
  · unfold Law_first_l1
    simp only [cnd_if, gAt_nat hk, bnd_pure]
    rw [if_pos (by omega), gI_ok (by omega), bnd_pure, List.getD_eq_getElem?_getD, List.getElem?_eq_getElem hk, Option.getD_some]
    by_cases h : l[k] = 0 <;> simp [h]
  · unfold Law_first_l1
    rw [cnd_if, if_neg (by omega)]

/-- Why a list of vectors is none. -/
def vecsF (l : List (Nat → Int)) : Int := firstE (fun j => vecF (l.getD j fun _ => 0)) l.length 0

theorem checkVecs_eq (l : List (Nat → Int)) (hl : l.length ≤ 9223372036854775807) : face_checkVecs l = some (vecsF l) := by
  unfold face_checkVecs vecsF
  refine scan l.length _ (fun next k hk => ?_) fun next => ?_
  · unfold face_checkVecs_l1
    simp only [cnd_if, gAt_nat hk, bnd_pure, face_CheckVec_eq]
    rw [if_pos (by omega), gI_ok (by omega), bnd_pure, List.getD_eq_getElem?_getD, List.getElem?_eq_getElem hk, Option.getD_some]
    by_cases h : vecF l[k] = 0 <;> simp [h]
  · unfold face_checkVecs_l1
    rw [cnd_if, if_neg (by omega)]

theorem tdivmod (a b : Int) (hb : 0 < b) : (a.tmod b < 0 → a.tdiv b - 1 = a / b) ∧ (¬ a.tmod b < 0 → a.tdiv b = a / b) := by
  have h1 := Int.tmod_add_mul_tdiv a b
  have h2 := Int.emod_add_mul_ediv a b
  have h3 := Int.emod_nonneg a (show b ≠ 0 by omega)
  have h4 := Int.emod_lt_of_pos a hb
  have h5 := Int.lt_tmod_of_pos a hb
  have h6 := Int.tmod_lt_of_pos a hb
  have key : b * (a.tdiv b - a / b) = a % b - a.tmod b := by rw [Int.mul_sub]; omega
  refine ⟨fun hn => ?_, fun hn => ?_⟩
  · have hlt : b * (a.tdiv b - a / b) < b * 2 := by omega
    have hgt : b * 0 < b * (a.tdiv b - a / b) := by omega
    have := Int.lt_of_mul_lt_mul_left hlt (by omega)
    have := Int.lt_of_mul_lt_mul_left hgt (by omega)
    omega
  · have hlt : b * (a.tdiv b - a / b) < b * 1 := by omega
    have hgt : b * (-1) < b * (a.tdiv b - a / b) := by omega
    have := Int.lt_of_mul_lt_mul_left hlt (by omega)
    have := Int.lt_of_mul_lt_mul_left hgt (by omega)
    omega

theorem tmod_sign (a b : Int) (hb : 0 < b) : (a.tmod b ≠ 0 ∧ a < 0) ↔ a.tmod b < 0 := by
  constructor
  · rintro ⟨h1, h2⟩
    have h3 : 0 ≤ (-a).tmod b := Int.tmod_nonneg b (by omega)
    rw [Int.neg_tmod] at h3
    omega
  · intro h
    refine ⟨by omega, ?_⟩
    rcases Int.lt_or_le a 0 with h0 | h0
    · exact h0
    · have := Int.tmod_nonneg b h0; omega

theorem ediv_bd {a b : Int} (ha : -9223372036854775807 ≤ a ∧ a ≤ 9223372036854775807) (hb : 0 < b) : -9223372036854775808 ≤ a / b ∧ a / b ≤ 9223372036854775807 := by
  have h6 := Int.natAbs_tdiv_le_natAbs a b
  have h7 := tdivmod a b hb
  by_cases h : a.tmod b < 0
  · have := h7.1 h; omega
  · have := h7.2 h; omega

theorem floor_eq {a b : Int} (ha : -9223372036854775807 ≤ a ∧ a ≤ 9223372036854775807) (hb : 0 < b) : face_floor a b = some (a / b) := by
  unfold face_floor
  have h7 := tdivmod a b hb
  have h8 := ediv_bd ha hb
  rw [gQuo_ok (by omega) ha, bnd_pure, gRem_ok (by omega), bnd_pure, cnd_if]
  by_cases h : a.tmod b < 0
  · rw [if_pos h, h7.1 h, gI_ok h8, bnd_pure]
  · rw [if_neg h, h7.2 h]

theorem down_eq {a b : Int} (ha : -9223372036854775807 ≤ a ∧ a ≤ 9223372036854775807) (hb : 0 < b) : R_down a b = some (a / b) := by
  unfold R_down
  have h7 := tdivmod a b hb
  have h8 := ediv_bd ha hb
  have h9 := tmod_sign a b hb
  rw [gQuo_ok (by omega) ha, bnd_pure, gRem_ok (by omega), bnd_pure, cnd_if, cnd_if]
  have hb' : decide (b < 0) = false := decide_eq_false (by omega)
  by_cases h : a.tmod b < 0
  · have ha' : decide (a < 0) = true := decide_eq_true (h9.2 h).2
    rw [if_pos (h9.2 h).1, if_pos (by rw [ha', hb']; decide), h7.1 h, gI_ok h8, bnd_pure]
  · rw [← h7.2 h]
    split
    · rw [if_neg]
      have : ¬ a < 0 := fun h0 => h (h9.1 ⟨‹_›, h0⟩)
      rw [hb', decide_eq_false this]; simp
    · rfl

/-! ### the mean -/

def addV (m t : Nat → Int) : Nat → Int := fun j => if j < 12 then m j + t j else m j
def addK (m t : Nat → Int) (k : Nat) : Nat → Int := fun j => if k ≤ j ∧ j < 12 then m j + t j else m j
theorem addK_step (m t : Nat → Int) {k : Nat} (hk : k < 12) : addK (setA m k (m k + t k)) t (k + 1) = addK m t k := by
  funext j
  unfold addK setA
  by_cases h : j = k
  · subst h; rw [if_neg (by omega), if_pos rfl, if_pos (by omega)]
  · by_cases h2 : k ≤ j ∧ j < 12
    · rw [if_pos (by omega), if_pos h2, if_neg h]
    · rw [if_neg (by omega), if_neg h2, if_neg h]
theorem addK_0 (m t : Nat → Int) : addK m t 0 = addV m t := by funext j; unfold addK addV; simp
theorem addK_12 (m t : Nat → Int) : addK m t 12 = m := by funext j; unfold addK; rw [if_neg (by omega)]

def sumV (l : List (Nat → Int)) (m : Nat → Int) : Nat → Int := l.foldl addV m

def bdV (m : Nat → Int) (b : Int) : Prop := ∀ j, j < 12 → -b ≤ m j ∧ m j ≤ b
theorem bdV_add {m t : Nat → Int} {b : Int} (h : bdV m b) (ht : vecF t = 0) : bdV (addV m t) (b + 127) := by
  intro j hj
  have h1 := h j hj
  have h2 := vecF_ok ht j hj
  unfold addV
  rw [if_pos hj]; omega

/-- Adding a vector: the inner loops. -/
theorem mean_l6 (x : Int) (nx : Int × (Nat → Int) → Option ((Nat → Int) × Int)) (t m : Nat → Int) {b : Int} (hm : bdV m b) (hb : b ≤ 100000) (ht : vecF t = 0) :
    fix (fun next6 s => face_Mean_l6 x nx t next6 s.1 s.2) (0, m) = face_Mean_j5 x nx (addV m t) := by
  have h := up2 (F := fun next6 s => face_Mean_l6 x nx t next6 s.1 s.2) 12 (fun k m => face_Mean_j5 x nx (addK m t k)) (fun k m' => ∀ j, k ≤ j → j < 12 → m' j = m j) (fun next k s hk hI ih => by
    unfold face_Mean_l6
    by_cases h : k < 12
    · have h1 := hm k h
      have h2 := vecF_ok ht k h
      have h3 := hI k (Nat.le_refl _) h
      simp (disch := omega) only [cnd_if, gI_ok, gIx_nat, bnd_pure, if_pos, if_neg]
      rw [ih _ h (fun j h1 h2 => by unfold setA; rw [if_neg (by omega)]; exact hI j (by omega) h2), addK_step s t h]
    · have : k = 12 := by omega
      subst this
      simp (disch := omega) only [cnd_if, if_neg]
      rw [addK_12]) m (fun j _ _ => rfl)
  rw [h, addK_0]

theorem meanOf_l6 (x : Int) (nx : Int × (Nat → Int) → Option ((Nat → Int) × Int)) (t m : Nat → Int) {b : Int} (hm : bdV m b) (hb : b ≤ 100000) (ht : vecF t = 0) :
    fix (fun next6 s => R_MeanOf_l6 x nx t next6 s.1 s.2) (0, m) = R_MeanOf_j5 x nx (addV m t) := mean_l6 x nx t m hm hb ht

def divV (m : Nat → Int) (n : Int) : Nat → Int := fun j => if j < 12 then m j / n else m j

theorem mean_j1 (l : List (Nat → Int)) (m : Nat → Int) (hl : 0 < l.length) {b : Int} (hm : bdV m b) (hb : b ≤ 100000) :
    ∃ m', face_Mean_j1 l m = some (m', 0) ∧ ∀ j, j < 12 → m' j = m j / l.length := by
  let D : Nat → (Nat → Int) → (Nat → Int) := fun k m' j => if k ≤ j ∧ j < 12 then m j / l.length else m' j
  have h := up2 (F := fun next s => face_Mean_l3 l m next s.1 s.2) 12 (fun k m' => some (D k m', 0)) (fun _ _ => True) (fun next k s hk _ ih => by
    unfold face_Mean_l3
    by_cases h : k < 12
    · have h1 := hm k h
      simp (disch := omega) only [cnd_if, gI_ok, gIx_nat, bnd_pure, if_pos, if_neg, floor_eq]
      rw [ih _ h trivial]
      congr 2
      funext j
      simp only [D, setA]
      by_cases hj : j = k
      · subst hj; rw [if_neg (by omega), if_pos rfl, if_pos (by omega)]
      · by_cases h2 : k ≤ j ∧ j < 12
        · rw [if_pos (by omega), if_pos h2]
        · rw [if_neg (by omega), if_neg h2, if_neg hj]
    · have : k = 12 := by omega
      subst this
      simp (disch := omega) only [cnd_if, if_neg]
      unfold face_Mean_j2
      congr 2
      funext j
      simp only [D]; rw [if_neg (by omega)]) m trivial
  exact ⟨_, h, fun j hj => by simp only [D]; rw [if_pos (by omega)]⟩

theorem meanOf_j1 (l : List (Nat → Int)) (m : Nat → Int) (hl : 0 < l.length) {b : Int} (hm : bdV m b) (hb : b ≤ 100000) :
    ∃ m', R_MeanOf_j1 l m = some (m', 0) ∧ ∀ j, j < 12 → m' j = m j / l.length := by
  let D : Nat → (Nat → Int) → (Nat → Int) := fun k m' j => if k ≤ j ∧ j < 12 then m j / l.length else m' j
  have h := up2 (F := fun next s => R_MeanOf_l3 l m next s.1 s.2) 12 (fun k m' => some (D k m', 0)) (fun _ _ => True) (fun next k s hk _ ih => by
    unfold R_MeanOf_l3
    by_cases h : k < 12
    · have h1 := hm k h
      simp (disch := omega) only [cnd_if, gI_ok, gIx_nat, bnd_pure, if_pos, if_neg, down_eq]
      rw [ih _ h trivial]
      congr 2
      funext j
      simp only [D, setA]
      by_cases hj : j = k
      · subst hj; rw [if_neg (by omega), if_pos rfl, if_pos (by omega)]
      · by_cases h2 : k ≤ j ∧ j < 12
        · rw [if_pos (by omega), if_pos h2]
        · rw [if_neg (by omega), if_neg h2, if_neg hj]
    · have : k = 12 := by omega
      subst this
      simp (disch := omega) only [cnd_if, if_neg]
      unfold R_MeanOf_j2
      congr 2
      funext j
      simp only [D]; rw [if_neg (by omega)]) (fun _ => 0) trivial
  exact ⟨_, h, fun j hj => by simp only [D]; rw [if_pos (by omega)]⟩

theorem mean_l4 (l : List (Nat → Int)) (hl : l.length ≤ 300) (hv : vecsF l = 0) : fix (fun next4 s => face_Mean_l4 l next4 s.1 s.2) (0, fun _ => 0) = face_Mean_j1 l (sumV l fun _ => 0) := by
  have h := up2 (F := fun next4 s => face_Mean_l4 l next4 s.1 s.2) l.length (fun k m => face_Mean_j1 l (sumV (l.drop k) m)) (fun k m => bdV m (127 * k)) (fun next k s hk hI ih => by
    unfold face_Mean_l4
    by_cases h : k < l.length
    · have hk0 : vecF l[k] = 0 := by
        have := firstE_zero hv k (by omega) (by omega)
        rwa [List.getD_eq_getElem?_getD, List.getElem?_eq_getElem h] at this
      simp (disch := omega) only [cnd_if, gAt_nat, bnd_pure, if_pos]
      rw [mean_l6 _ _ _ _ hI (by omega) hk0]
      unfold face_Mean_j5
      rw [gI_ok (by omega), bnd_pure, ih _ h (by have := bdV_add hI hk0; rwa [show (127 * (k : Int) + 127) = 127 * ((k + 1 : Nat) : Int) from by omega] at this)]
      conv => rhs; rw [List.drop_eq_getElem_cons h]
      rfl
    · simp (disch := omega) only [cnd_if, if_neg]
      rw [List.drop_of_length_le (by omega)]; rfl) (fun _ => 0) (fun j _ => by simp)
  simpa using h

theorem meanOf_l4 (l : List (Nat → Int)) (hl : l.length ≤ 300) : fix (fun next4 s => R_MeanOf_l4 l next4 s.1 s.2) (0, fun _ => 0) = if vecsF l = 0 then R_MeanOf_j1 l (sumV l fun _ => 0) else some (fun _ => 0, vecsF l) := by
  have h := up2 (F := fun next4 s => R_MeanOf_l4 l next4 s.1 s.2) l.length (fun k m => if firstE (fun j => vecF (l.getD j fun _ => 0)) (l.length - k) k = 0 then R_MeanOf_j1 l (sumV (l.drop k) m) else some (fun _ => 0, firstE (fun j => vecF (l.getD j fun _ => 0)) (l.length - k) k)) (fun k m => bdV m (127 * k)) (fun next k s hk hI ih => by
    unfold R_MeanOf_l4
    by_cases h : k < l.length
    · rw [show l.length - k = l.length - (k + 1) + 1 from by omega]
      have hg : l.getD k (fun _ => 0) = l[k] := by rw [List.getD_eq_getElem?_getD, List.getElem?_eq_getElem h]; rfl
      simp only [firstE, hg]
      simp (disch := omega) only [cnd_if, gAt_nat, bnd_pure, if_pos, R_VecFault_eq]
      by_cases hk0 : vecF l[k] = 0
      · rw [if_neg (by simp [hk0]), meanOf_l6 _ _ _ _ hI (by omega) hk0]
        unfold R_MeanOf_j5
        rw [gI_ok (by omega), bnd_pure, ih _ h (by have := bdV_add hI hk0; rwa [show (127 * (k : Int) + 127) = 127 * ((k + 1 : Nat) : Int) from by omega] at this)]
        simp only [hk0, if_true]
        conv => rhs; rw [List.drop_eq_getElem_cons h]
        rfl
      · simp [hk0]
    · simp (disch := omega) only [cnd_if, if_neg]
      rw [List.drop_of_length_le (by omega), show l.length - k = 0 from by omega]; rfl) (fun _ => 0) (fun j _ => by simp)
  simpa [vecsF] using h

theorem sum_bd (l : List (Nat → Int)) (hv : vecsF l = 0) : bdV (sumV l fun _ => 0) (127 * l.length) := by
  have key : ∀ (l : List (Nat → Int)) (m : Nat → Int) (b : Int), (∀ x ∈ l, vecF x = 0) → bdV m b → bdV (sumV l m) (b + 127 * l.length) := by
    intro l
    induction l with
    | nil => intro m b _ h; simpa [sumV] using h
    | cons x r ih =>
      intro m b hx h
      have := ih (addV m x) (b + 127) (fun y hy => hx y (List.mem_cons_of_mem _ hy)) (bdV_add h (hx x (List.mem_cons_self ..)))
      rw [show b + 127 * ((x :: r).length : Nat) = b + 127 + 127 * (r.length : Nat) from by rw [List.length_cons]; omega]
      exact this
  have := key l (fun _ => 0) 0 (fun x hx => by
    obtain ⟨j, hj, rfl⟩ := List.getElem_of_mem hx
    have := firstE_zero hv j (by omega) (by omega)
    rwa [List.getD_eq_getElem?_getD, List.getElem?_eq_getElem hj] at this) (fun j _ => by simp)
  simpa using this

theorem means (l : List (Nat → Int)) (hl : l.length ≤ 9223372036854775807) : ∃ m m' e, face_Mean l = some (m, e) ∧ R_MeanOf l = some (m', e) ∧ (∀ j, j < 12 → m j = m' j) ∧ (e ≠ 0 → m = fun _ => 0) := by
  unfold face_Mean R_MeanOf
  by_cases h0 : l.length = 0
  · simp (disch := omega) only [cnd_if, if_pos]
    exact ⟨_, _, _, rfl, rfl, fun _ _ => rfl, fun _ => rfl⟩
  · by_cases h3 : 300 < l.length
    · simp (disch := omega) only [cnd_if, if_pos, if_neg]
      exact ⟨_, _, _, rfl, rfl, fun _ _ => rfl, fun _ => rfl⟩
    · simp (disch := omega) only [cnd_if, if_neg, checkVecs_eq, bnd_pure]
      rw [meanOf_l4 l (by omega)]
      by_cases hv : vecsF l = 0
      · rw [if_neg (by simp [hv]), if_pos hv, mean_l4 l (by omega) hv]
        have hb := sum_bd l hv
        obtain ⟨m, h1, h2⟩ := mean_j1 l _ (by omega) hb (by omega)
        obtain ⟨m', h3, h4⟩ := meanOf_j1 l _ (by omega) hb (by omega)
        exact ⟨m, m', 0, h1, h3, fun j hj => by rw [h2 j hj, h4 j hj], fun h => absurd rfl h⟩
      · rw [if_pos hv, if_neg hv]
        exact ⟨_, _, _, rfl, rfl, fun _ _ => rfl, fun _ => rfl⟩

/-! ### likenesses -/

def likeF (l : List T_face_Likeness) (j : Nat) : Int :=
  if ¬ (1 ≤ (l.getD j default).Id ∧ (l.getD j default).Id ≤ 1000000) ∨ ¬ (1 ≤ (l.getD j default).Photo ∧ (l.getD j default).Photo ≤ 1000000) then 2
  else if 0 < j ∧ (l.getD j default).Id ≤ (l.getD (j - 1) default).Id then 5 else vecF (l.getD j default).Vec

theorem idOk_eq (n : Int) : R_idOk n = some (decide (1 ≤ n ∧ n ≤ 1000000)) := by
  unfold R_idOk
  rw [cnd_if]; by_cases h : 1 ≤ n <;> simp [h]

theorem at_D {α : Type} [Inhabited α] {l : List α} {k : Nat} (h : k < l.length) : l.getD k default = l[k] := by
  rw [List.getD_eq_getElem?_getD, List.getElem?_eq_getElem h]; rfl

theorem check_eq (l : List T_face_Likeness) (hl : l.length ≤ 9223372036854775807) : face_Check l = some (if 300 < l.length then 4 else firstE (likeF l) l.length 0) := by
  unfold face_Check
  rw [cnd_if]
  by_cases h3 : 300 < l.length
  · rw [if_pos (by omega), if_pos h3]
  · rw [if_neg (by omega), if_neg h3]
    refine scan l.length _ (fun next k hk => ?_) fun next => ?_
    · unfold face_Check_l1 likeF
      rw [at_D hk]
      simp (disch := omega) only [cnd_if, gAt_nat, bnd_pure, if_pos, outside_eq]
      by_cases h1 : 1 ≤ l[k].Id ∧ l[k].Id ≤ 1000000
      · by_cases h2 : 1 ≤ l[k].Photo ∧ l[k].Photo ≤ 1000000
        · have hh : ¬ (¬ (1 ≤ l[k].Id ∧ l[k].Id ≤ 1000000) ∨ ¬ (1 ≤ l[k].Photo ∧ l[k].Photo ≤ 1000000)) := by omega
          rw [if_neg (by omega), if_neg (by omega), if_neg hh]
          have hj2 : face_Check_j2 (k : Int) next l[k] = if vecF l[k].Vec = 0 then next ((k : Int) + 1) else some (vecF l[k].Vec) := by
            unfold face_Check_j2
            rw [face_CheckVec_eq, bnd_pure, gI_ok (by omega), bnd_pure, cnd_if]
            by_cases hv : vecF l[k].Vec = 0 <;> simp [hv]
          by_cases hk0 : 0 < k
          · have hm : (l.getD (k - 1) default) = l[k - 1] := at_D (show k - 1 < l.length by omega)
            rw [if_pos (by omega), gI_ok (by omega), bnd_pure, show ((k : Int) - 1) = ((k - 1 : Nat) : Int) from by omega, gAt_nat (by omega), bnd_pure, hm]
            by_cases hle : l[k].Id ≤ l[k - 1].Id
            · have hc : (if 0 < k ∧ l[k].Id ≤ l[k - 1].Id then (5 : Int) else vecF l[k].Vec) = 5 := if_pos ⟨hk0, hle⟩
              rw [if_pos hle, hc, if_neg (by decide)]
            · have hc : (if 0 < k ∧ l[k].Id ≤ l[k - 1].Id then (5 : Int) else vecF l[k].Vec) = vecF l[k].Vec := if_neg fun h => hle h.2
              rw [if_neg hle, hc, hj2]
          · have hc : (if 0 < k ∧ l[k].Id ≤ (l.getD (k - 1) default).Id then (5 : Int) else vecF l[k].Vec) = vecF l[k].Vec := if_neg fun h => hk0 h.1
            rw [if_neg (by omega), hc, hj2]
        · have hh : ¬ (1 ≤ l[k].Id ∧ l[k].Id ≤ 1000000) ∨ ¬ (1 ≤ l[k].Photo ∧ l[k].Photo ≤ 1000000) := .inr h2
          rw [if_neg (by omega), if_pos (by omega), if_pos hh, if_neg (by decide)]
      · have hh : ¬ (1 ≤ l[k].Id ∧ l[k].Id ≤ 1000000) ∨ ¬ (1 ≤ l[k].Photo ∧ l[k].Photo ≤ 1000000) := .inl h1
        rw [if_pos (by omega), if_pos hh, if_neg (by decide)]
    · unfold face_Check_l1
      rw [cnd_if, if_neg (by omega)]

theorem likes_eq (l : List T_face_Likeness) (hl : l.length ≤ 9223372036854775807) : R_LikesFault l = some (if 300 < l.length then 4 else firstE (likeF l) l.length 0) := by
  rw [← check_eq l hl]
  unfold R_LikesFault face_Check
  congr 2
  funext next a
  unfold R_LikesFault_l1 face_Check_l1
  congr 1
  congr 1
  funext t
  simp only [idOk_eq, outside_eq, bnd_pure]
  have e1 : (!decide (1 ≤ t.Id ∧ t.Id ≤ 1000000)) = decide (t.Id < 1 ∨ 1000000 < t.Id) := by
    rw [Bool.eq_iff_iff]; simp <;> omega
  have e2 : (!decide (1 ≤ t.Photo ∧ t.Photo ≤ 1000000)) = decide (t.Photo < 1 ∨ 1000000 < t.Photo) := by
    rw [Bool.eq_iff_iff]; simp <;> omega
  have e3 : ∀ b c, R_LikesFault_j2 a next t b c = face_Check_j2 a next t := by
    intro b c
    unfold R_LikesFault_j2 face_Check_j2
    rw [R_VecFault_eq, face_CheckVec_eq]
  simp only [e1, e2, e3]

/-! ### the law -/

theorem told_int_eq (v e w f : Int) (h : v = (if f = 0 then w else 0)) (he : e = f) : Law_told_int v e w f = some true := by
  unfold Law_told_int Law_told_int_j1
  simp only [cnd_if]
  by_cases hf : f = 0 <;> simp_all

theorem law (a b : Nat → Int) (many : List (Nat → Int)) (l : List T_face_Likeness) (h1 : many.length ≤ 9223372036854775807) (h2 : l.length ≤ 9223372036854775807) : Law_FaceVecs a b many l = some true := by
  unfold Law_FaceVecs
  obtain ⟨m, m', e, hm, hm', hj, h0⟩ := means many h1
  have hF : face_Far a b = if vecsF [a, b] = 0 then bnd (face_far a b) fun t => some (t, 0) else some (0, vecsF [a, b]) := by
    unfold face_Far
    rw [checkVecs_eq _ (by simp), bnd_pure, cnd_if]
    by_cases h : vecsF [a, b] = 0 <;> simp [h]
  have hfirst : Law_first [vecF a, vecF b] = some (vecsF [a, b]) := by
    rw [first_eq _ (by simp)]; rfl
  have hT : Law_told_face_Vec m e m' e = some true := by
    unfold Law_told_face_Vec Law_told_face_Vec_j1 eq_face_Vec
    simp only [cnd_if]
    by_cases he : e = 0
    · subst he
      have : List.map m (List.range 12) = List.map m' (List.range 12) := List.map_congr_left fun j hj' => hj j (by simpa using hj')
      simp [this]
    · simp [he, h0 he]
  rw [R_VecFault_eq, bnd_pure, hF]
  have hJ : ∀ (x23 : Int × Int) (x17 : Int), x23.1 = (if vecsF [a, b] = 0 then x17 else 0) → x23.2 = vecsF [a, b] → Law_FaceVecs_j1 a l (vecF a) x23 (m, e) (m', e) (vecsF [a, b]) x17 = some true := by
    intro x23 x17 g1 g2
    unfold Law_FaceVecs_j1
    rw [face_CheckVec_eq, bnd_pure, cnd_if, if_pos rfl, told_int_eq _ _ _ _ g1 g2, bnd_pure, cnd_true, hT, bnd_pure, cnd_true, check_eq l h2, bnd_pure, likes_eq l h2, bnd_pure]
    simp
  by_cases hv : vecsF [a, b] = 0
  · have hva : vecF a = 0 ∧ vecF b = 0 := ⟨firstE_zero hv 0 (by simp) (by simp), firstE_zero hv 1 (by simp) (by simp)⟩
    obtain ⟨r, hr⟩ := far_some a b hva.1 hva.2
    rw [if_pos hv, hr, bnd_pure, bnd_pure, hm, bnd_pure, hm', bnd_pure, R_VecFault_eq, bnd_pure, hfirst, bnd_pure, cnd_if, if_pos hv, R_FarOf_eq, hr, bnd_pure]
    exact hJ _ _ (by rw [if_pos hv]) hv.symm
  · rw [if_neg hv, bnd_pure, hm, bnd_pure, hm', bnd_pure, R_VecFault_eq, bnd_pure, hfirst, bnd_pure, cnd_if, if_neg hv]
    exact hJ _ _ (by rw [if_neg hv]) rfl

theorem lawS (a b : Nat → Int) (many : List (Nat → Int)) (l : List T_face_Likeness) {P Q R S : Prop} (_ : P) (_ : Q) (h1 : many.length ≤ 9223372036854775807 ∧ R) (h2 : l.length ≤ 9223372036854775807 ∧ S) : Law_FaceVecs a b many l = some true := law a b many l h1.1 h2.1

end Go.M
