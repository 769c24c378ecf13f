/- Likenesses, in plain Lean. Conditions: none. -/
import Derived.Test.YtgchdmkpjaakcaaGreatPl
import Derived.Test.YtgchdmkpjaakcaaGreatMFp
import Derived.Test.YtgchdmkpjaakcaaGreatPl2
import Derived.Test.YtgchdmkpjaakcaaGreatStA
namespace Go.M
open Go.Md Go.Pl

def okN (x : Int) : Bool := decide (-127 ≤ x ∧ x ≤ 127)
theorem okN_iff {x : Int} : okN x = true ↔ -127 ≤ x ∧ x ≤ 127 := by simp [okN]
def c12 (v : Nat → Int) (j : Nat) : Int := if okN (v j) = true then 0 else 2
def vecF (v : Nat → Int) : Int := firstE (c12 v) 12 0

theorem outside_eq (a b c : Int) : face_outside a b c = some (decide (a < b ∨ c < a)) := by
  unfold face_outside
  rw [cnd_if]; by_cases h : a < b <;> simp [h]

theorem R_VecFault_eq (v : Nat → Int) : R_VecFault v = some (vecF v) := by
  unfold R_VecFault vecF
  refine scan 12 _ (fun next k hk => ?_) fun next => ?_
  · unfold R_VecFault_l1 c12
    by_cases h : okN (v k) = true
    · have h' := okN_iff.1 h
      rw [if_pos h]
      simp (disch := omega) only [cnd_if, gI_ok, gIx_nat, bnd_pure, if_pos, if_neg, if_true]
    · have h' : ¬ (-127 ≤ v k ∧ v k ≤ 127) := fun hh => h (okN_iff.2 hh)
      rw [if_neg h]
      by_cases h2 : v k < -127 <;> simp (disch := omega) only [cnd_if, gI_ok, gIx_nat, bnd_pure, if_pos, if_neg]
  · unfold R_VecFault_l1
    rfl

theorem face_CheckVec_eq (v : Nat → Int) : face_CheckVec v = some (vecF v) := by
  unfold face_CheckVec vecF
  refine scan 12 _ (fun next k hk => ?_) fun next => ?_
  · unfold face_CheckVec_l1 c12
    by_cases h : okN (v k) = true
    · have h' := okN_iff.1 h
      rw [if_pos h]
      simp (disch := omega) only [cnd_if, gI_ok, gIx_nat, bnd_pure, outside_eq, if_pos, if_neg, if_true]
    · have h' : ¬ (-127 ≤ v k ∧ v k ≤ 127) := fun hh => h (okN_iff.2 hh)
      rw [if_neg h]
      simp (disch := omega) only [cnd_if, gI_ok, gIx_nat, bnd_pure, outside_eq, if_pos, if_neg]
  · unfold face_CheckVec_l1
    rfl

theorem vecF_ok {w : Nat → Int} (h : vecF w = 0) (j : Nat) (hj : j < 12) : -127 ≤ w j ∧ w j ≤ 127 := by
  have := firstE_zero h j (by omega) (by omega)
  unfold c12 at this
  by_cases hh : okN (w j) = true
  · exact okN_iff.1 hh
  · rw [if_neg hh] at this; cases this

theorem R_FarOf_eq : R_FarOf = face_far := rfl

def likeF (l : List T_face_Likeness) (j : Nat) : Int :=
  if ¬ (1 ≤ (l.getD j default).Id ∧ (l.getD j default).Id ≤ 1000000) ∨ ¬ (1 ≤ (l.getD j default).Photo ∧ (l.getD j default).Photo ≤ 1000000) then 2
  else if 0 < j ∧ (l.getD j default).Id ≤ (l.getD (j - 1) default).Id then 5 else vecF (l.getD j default).Vec

theorem idOk_eq (n : Int) : R_idOk n = some (decide (1 ≤ n ∧ n ≤ 1000000)) := by
  unfold R_idOk
  rw [cnd_if]; by_cases h : 1 ≤ n <;> simp [h]

theorem at_D {α : Type} [Inhabited α] {l : List α} {k : Nat} (h : k < l.length) : l.getD k default = l[k] := by
  rw [List.getD_eq_getElem?_getD, List.getElem?_eq_getElem h]; rfl

theorem check_eq (l : List T_face_Likeness) (hl : l.length ≤ 9223372036854775807) : face_Check l = some (if 300 < l.length then 4 else firstE (likeF l) l.length 0) := by
  unfold face_Check
  rw [cnd_if]
  by_cases h3 : 300 < l.length
  · rw [if_pos (by omega), if_pos h3]
  · rw [if_neg (by omega), if_neg h3]
    refine scan l.length _ (fun next k hk => ?_) fun next => ?_
    · unfold face_Check_l1 likeF
      rw [at_D hk]
      simp (disch := omega) only [cnd_if, gAt_nat, bnd_pure, if_pos, outside_eq]
      by_cases h1 : 1 ≤ l[k].Id ∧ l[k].Id ≤ 1000000
      · by_cases h2 : 1 ≤ l[k].Photo ∧ l[k].Photo ≤ 1000000
        · have hh : ¬ (¬ (1 ≤ l[k].Id ∧ l[k].Id ≤ 1000000) ∨ ¬ (1 ≤ l[k].Photo ∧ l[k].Photo ≤ 1000000)) := by omega
          rw [if_neg (by omega), if_neg (by omega), if_neg hh]
          have hj2 : face_Check_j2 (k : Int) next l[k] = if vecF l[k].Vec = 0 then next ((k : Int) + 1) else some (vecF l[k].Vec) := by
            unfold face_Check_j2
            rw [face_CheckVec_eq, bnd_pure, gI_ok (by omega), bnd_pure, cnd_if]
            by_cases hv : vecF l[k].Vec = 0 <;> simp [hv]
          by_cases hk0 : 0 < k
          · have hm : (l.getD (k - 1) default) = l[k - 1] := at_D (show k - 1 < l.length by omega)
            rw [if_pos (by omega), gI_ok (by omega), bnd_pure, show ((k : Int) - 1) = ((k - 1 : Nat) : Int) from by omega, gAt_nat (by omega), bnd_pure, hm]
            by_cases hle : l[k].Id ≤ l[k - 1].Id
            · have hc : (if 0 < k ∧ l[k].Id ≤ l[k - 1].Id then (5 : Int) else vecF l[k].Vec) = 5 := if_pos ⟨hk0, hle⟩
              rw [if_pos hle, hc, if_neg (by decide)]
            · have hc : (if 0 < k ∧ l[k].Id ≤ l[k - 1].Id then (5 : Int) else vecF l[k].Vec) = vecF l[k].Vec := if_neg fun h => hle h.2
              rw [if_neg hle, hc, hj2]
          · have hc : (if 0 < k ∧ l[k].Id ≤ (l.getD (k - 1) default).Id then (5 : Int) else vecF l[k].Vec) = vecF l[k].Vec := if_neg fun h => hk0 h.1
            rw [if_neg (by omega), hc, hj2]
        · have hh : ¬ (1 ≤ l[k].Id ∧ l[k].Id ≤ 1000000) ∨ ¬ (1 ≤ l[k].Photo ∧ l[k].Photo ≤ 1000000) := .inr h2
          rw [if_neg (by omega), if_pos (by omega), if_pos hh, if_neg (by decide)]
      · have hh : ¬ (1 ≤ l[k].Id ∧ l[k].Id ≤ 1000000) ∨ ¬ (1 ≤ l[k].Photo ∧ l[k].Photo ≤ 1000000) := .inl h1
        rw [if_pos (by omega), if_pos hh, if_neg (by decide)]
    · unfold face_Check_l1
      rw [cnd_if, if_neg (by omega)]

theorem likes_eq (l : List T_face_Likeness) (hl : l.length ≤ 9223372036854775807) : R_LikesFault l = some (if 300 < l.length then 4 else firstE (likeF l) l.length 0) := by
  rw [← check_eq l hl]
  unfold R_LikesFault face_Check
  congr 2
  funext next a
  unfold R_LikesFault_l1 face_Check_l1
  congr 1
  congr 1
  funext t
  simp only [idOk_eq, outside_eq, bnd_pure]
  have e1 : (!decide (1 ≤ t.Id ∧ t.Id ≤ 1000000)) = decide (t.Id < 1 ∨ 1000000 < t.Id) := by
    rw [Bool.eq_iff_iff]; simp <;> omega
  have e2 : (!decide (1 ≤ t.Photo ∧ t.Photo ≤ 1000000)) = decide (t.Photo < 1 ∨ 1000000 < t.Photo) := by
    rw [Bool.eq_iff_iff]; simp <;> omega
  have e3 : ∀ b c, R_LikesFault_j2 a next t b c = face_Check_j2 a next t := by
    intro b c
    unfold R_LikesFault_j2 face_Check_j2
    rw [R_VecFault_eq, face_CheckVec_eq]
  simp only [e1, e2, e3]

theorem told_int_eq (v e w f : Int) (h : v = (if f = 0 then w else 0)) (he : e = f) : Law_told_int v e w f = some true := by
  unfold Law_told_int Law_told_int_j1
  simp only [cnd_if]
  by_cases hf : f = 0 <;> simp_all


end Go.M

/- FacePeople in plain Lean, first part: searches in lists. Conditions: few elements. -/
namespace Go.M
open Go.Md Go.Pl
set_option linter.unusedVariables false

theorem half {x : Int} (h : 0 ≤ x ∧ x ≤ 4611686018427387904) : gShr 64 (wU64 x) 1 = some (x / 2) ∧ wI64 (x / 2) = x / 2 := by
  refine ⟨?_, wI64_in (by omega)⟩
  rw [wU64_in (by omega)]
  unfold gShr
  rw [if_pos (by omega)]
  rfl
theorem decT {p : Prop} [Decidable p] (h : p) : decide p = true := decide_eq_true h
theorem decF {p : Prop} [Decidable p] (h : ¬ p) : decide p = false := decide_eq_false h

/-- Where the first one is, or -1. -/
def idx {α : Type} (g : α → Bool) (l : List α) : Int := match l.findIdx? g with | some k => (k : Int) | none => -1
theorem idx_nn {α : Type} (g : α → Bool) (l : List α) : decide (0 ≤ idx g l) = l.any g := by
  unfold idx
  cases h : l.findIdx? g with
  | none =>
    rw [List.findIdx?_eq_none_iff] at h
    have : l.any g = false := by rw [List.any_eq_false]; intro x hx; simp [h x hx]
    rw [this]; rfl
  | some k =>
    have : l.any g = true := by
      rw [List.findIdx?_eq_some_iff_getElem] at h
      obtain ⟨h1, h2, _⟩ := h
      exact List.any_eq_true.2 ⟨_, List.getElem_mem h1, h2⟩
    rw [this]; simp

theorem index_loop {α : Type} {F : (Int → Option Int) → Int → Option Int} (l : List α) (g : α → Bool)
    (more : ∀ (next : Int → Option Int) (k : Nat) (h : k < l.length), F next (k : Int) = if g l[k] = true then some (k : Int) else next ((k : Int) + 1)) (last : ∀ next, F next (l.length : Int) = some (-1)) : fix F 0 = some (idx g l) := by
  have h := up (F := F) l.length (fun k => some (match (l.drop k).findIdx? g with | some j => ((k + j : Nat) : Int) | none => -1)) (fun next k hk ih => by
    rcases Nat.lt_or_ge k l.length with h | h
    · rw [more next k h, List.drop_eq_getElem_cons h, List.findIdx?_cons]
      by_cases hg : g l[k] = true
      · rw [if_pos hg, if_pos hg]; rfl
      · rw [if_neg hg, if_neg hg, ih h]
        cases (l.drop (k + 1)).findIdx? g with
        | none => rfl
        | some j => simp only [Option.map_some]; rw [show k + 1 + j = k + (j + 1) by omega]
    · have : k = l.length := by omega
      subst this
      rw [last, List.drop_length]; rfl)
  rw [h, List.drop_zero]
  unfold idx
  cases l.findIdx? g <;> simp

theorem indexFunc_of {α : Type} {l : List α} {f : α → Option Bool} {g : α → Bool} (hl : l.length ≤ 9223372036854775000) (hf : ∀ x ∈ l, f x = some (g x)) {F : (Int → Option Int) → Int → Option Int}
    (hF : ∀ next x, F next x = cnd (decide (x < (l.length : Int))) (bnd (gAt l x) fun t14 => bnd (f t14) fun t16 => cnd t16 (some x) (bnd (gI (x + 1)) fun t18 => next t18)) (some (-1))) : fix F 0 = some (idx g l) := by
  refine index_loop l g (fun next k h => ?_) fun next => ?_
  · rw [hF, decT (by omega), cnd_true, gAt_nat h, bnd_pure, hf _ (List.getElem_mem h), bnd_pure, gI_ok (by omega), bnd_pure]
    by_cases hg : g l[k] = true
    · rw [if_pos hg, hg, cnd_true]
    · rw [if_neg hg, (by simpa using hg : g l[k] = false), cnd_false]
  · rw [hF, decF (by omega), cnd_false]

theorem indexInt_eq (l : List Int) (f : Int → Option Bool) (g : Int → Bool) (hl : l.length ≤ 9223372036854775000) (hf : ∀ x ∈ l, f x = some (g x)) : slices_IndexFunc_int l f = some (idx g l) := indexFunc_of hl hf fun _ _ => rfl
theorem containsFunc_eq (l : List Int) (f : Int → Option Bool) (g : Int → Bool) (hl : l.length ≤ 9223372036854775000) (hf : ∀ x ∈ l, f x = some (g x)) : slices_ContainsFunc_int l f = some (l.any g) := by
  unfold slices_ContainsFunc_int
  rw [indexInt_eq l f g hl hf, bnd_pure, idx_nn]
theorem indexByte_eq (l : List Int) (f : Int → Option Bool) (g : Int → Bool) (hl : l.length ≤ 9223372036854775000) (hf : ∀ x ∈ l, f x = some (g x)) : slices_IndexFunc_byte l f = some (idx g l) := indexFunc_of hl hf fun _ _ => rfl
theorem containsByte_eq (l : List Int) (f : Int → Option Bool) (g : Int → Bool) (hl : l.length ≤ 9223372036854775000) (hf : ∀ x ∈ l, f x = some (g x)) : slices_ContainsFunc_byte l f = some (l.any g) := by
  unfold slices_ContainsFunc_byte
  rw [indexByte_eq l f g hl hf, bnd_pure, idx_nn]
theorem indexLike_eq (l : List T_face_Likeness) (f : T_face_Likeness → Option Bool) (g : T_face_Likeness → Bool) (hl : l.length ≤ 9223372036854775000) (hf : ∀ x ∈ l, f x = some (g x)) : slices_IndexFunc_face_Likeness l f = some (idx g l) := indexFunc_of hl hf fun _ _ => rfl
theorem indexPerson_eq (l : List T_face_Person) (f : T_face_Person → Option Bool) (g : T_face_Person → Bool) (hl : l.length ≤ 9223372036854775000) (hf : ∀ x ∈ l, f x = some (g x)) : slices_IndexFunc_face_Person l f = some (idx g l) := indexFunc_of hl hf fun _ _ => rfl
theorem any_eq (l : List Int) (n : Int) : l.any (fun x => decide (n = x)) = decide (n ∈ l) := by
  rw [Bool.eq_iff_iff, List.any_eq_true, decide_eq_true_iff]
  constructor
  · rintro ⟨x, hx, h⟩; simp at h; subst h; exact hx
  · intro h; exact ⟨n, h, by simp⟩
theorem contains_eq (l : List Int) (n : Int) (hl : l.length ≤ 9223372036854775000) : slices_Contains_int l n = some (decide (n ∈ l)) := by
  unfold slices_Contains_int
  rw [show slices_Index_int l n = some (idx (fun x => decide (n = x)) l) from indexFunc_of (f := fun t14 => some (decide (n = t14))) hl (fun _ _ => rfl) fun _ _ => rfl, bnd_pure, idx_nn, any_eq]

/-- A binary search: how many are less. -/
theorem bin_loop {α ρ : Type} {F : (Int × Int → Option ρ) → Int × Int → Option ρ} (l : List α) (p : α → Bool) (mono : ∀ (i j : Nat) (hi : i < l.length) (hj : j < l.length), i < j → p l[j] = true → p l[i] = true) (J : Int → Option ρ)
    (more : ∀ (next : Int × Int → Option ρ) (i j : Nat) (h : (i + j) / 2 < l.length), i < j → j ≤ l.length → F next ((i : Int), (j : Int)) = if p l[(i + j) / 2] = true then next (((i + j) / 2 : Nat) + 1, (j : Int)) else next ((i : Int), (((i + j) / 2 : Nat) : Int)))
    (stop : ∀ next (i : Nat), i ≤ l.length → F next ((i : Int), (i : Int)) = J i) :
    ∃ k : Nat, k ≤ l.length ∧ (∀ (i : Nat) (h : i < l.length), i < k → p l[i] = true) ∧ (∀ (i : Nat) (h : i < l.length), k ≤ i → p l[i] = false) ∧ fix F (0, (l.length : Int)) = J k := by
  have key : ∀ n i j, i ≤ j → j ≤ l.length → j - i < n → (∀ (q : Nat) (h : q < l.length), q < i → p l[q] = true) → (∀ (q : Nat) (h : q < l.length), j ≤ q → p l[q] = false) →
      ∃ k : Nat, k ≤ l.length ∧ (∀ (i : Nat) (h : i < l.length), i < k → p l[i] = true) ∧ (∀ (i : Nat) (h : i < l.length), k ≤ i → p l[i] = false) ∧ fix F ((i : Int), (j : Int)) = J k := by
    intro n
    induction n with
    | zero => intro i j _ _ h; omega
    | succ n ih =>
      intro i j h1 h2 h3 h4 h5
      rcases Nat.lt_or_ge i j with h | h
      · have hb : (i + j) / 2 < l.length := by omega
        by_cases hp : p l[(i + j) / 2] = true
        · rw [fix_goto ((((i + j) / 2 + 1 : Nat) : Int), (j : Int)) fun next => by rw [more next i j hb h h2, if_pos hp]; rfl]
          refine ih _ _ (by omega) h2 (by omega) (fun q hq hq2 => ?_) h5
          rcases Nat.lt_or_ge q ((i + j) / 2) with h6 | h6
          · exact mono q _ hq hb h6 hp
          · have : q = (i + j) / 2 := by omega
            subst this; exact hp
        · rw [fix_goto ((i : Int), (((i + j) / 2 : Nat) : Int)) fun next => by rw [more next i j hb h h2, if_neg hp]]
          refine ih _ _ (by omega) (by omega) (by omega) h4 fun q hq hq2 => ?_
          rcases Nat.lt_or_ge ((i + j) / 2) q with h6 | h6
          · cases h7 : p l[q] with
            | false => rfl
            | true => exact absurd (mono _ q hb hq h6 h7) hp
          · have : q = (i + j) / 2 := by omega
            subst this; simpa using hp
      · have : i = j := by omega
        subst this
        exact ⟨i, h2, h4, h5, fix_done fun next => stop next i h2⟩
  simpa using key (l.length + 1) 0 l.length (Nat.zero_le _) (Nat.le_refl _) (by omega) (fun q _ h => by omega) (fun q h h' => by omega)

/-- Likenesses by rising Ids. -/
def Rise (l : List T_face_Likeness) : Prop := l.Pairwise fun x y => x.Id < y.Id
def has (id : Int) (x : T_face_Likeness) : Bool := decide (x.Id = id)

theorem likeAt_eq (l : List T_face_Likeness) (id : Int) (hl : l.length ≤ 9223372036854775000) : R_LikeAt l id = some (idx (has id) l) := by
  unfold R_LikeAt
  rw [indexLike_eq l (R_LikeAt_1 id) (has id) hl fun _ _ => rfl, bnd_pure]

theorem at_eq (l : List T_face_Likeness) (id : Int) (hr : Rise l) (hl : l.length ≤ 1000000000) :
    ∃ i b, face_at l id = some (i, b) ∧ b = l.any (has id) ∧ (b = true → i = idx (has id) l) := by
  have hp := List.pairwise_iff_getElem.1 hr
  obtain ⟨k, h1, h2, h3, h4⟩ := bin_loop (F := fun next2 s => slices_BinarySearchFunc_face_Likeness_int_l2 l id face_at_1 next2 s.1 s.2) l (fun x => decide (x.Id < id)) (fun i j hi hj hij h => by have := hp i j hi hj hij; simp at h ⊢; omega) (slices_BinarySearchFunc_face_Likeness_int_j1 l id face_at_1)
    (fun next i j h hij hj => by
      obtain ⟨f1, f2⟩ := half (x := (i : Int) + j) (by omega)
      rw [show ((i : Int) + j) / 2 = (((i + j) / 2 : Nat) : Int) by omega] at f1 f2
      simp only [slices_BinarySearchFunc_face_Likeness_int_l2]
      rw [decT (by omega), cnd_true, gI_ok (by omega), bnd_pure, f1, bnd_pure, f2, gAt_nat h, bnd_pure]
      unfold face_at_1
      by_cases hlt : l[(i + j) / 2].Id < id
      · rw [decT hlt, cnd_true, bnd_pure, decT (by omega), cnd_true, gI_ok (by omega), bnd_pure, if_pos rfl]
      · rw [decF hlt, cnd_false, if_neg (by simp)]
        by_cases hgt : id < l[(i + j) / 2].Id
        · rw [decT hgt, cnd_true, bnd_pure, decF (by omega), cnd_false]
        · rw [decF hgt, cnd_false, bnd_pure, decF (by omega), cnd_false])
    (fun next i hi => by
      simp only [slices_BinarySearchFunc_face_Likeness_int_l2]
      rw [decF (by omega), cnd_false])
  have hfix : face_at l id = bnd (slices_BinarySearchFunc_face_Likeness_int_j1 l id face_at_1 k) fun t8 => some (t8.1, t8.2) := by
    unfold face_at slices_BinarySearchFunc_face_Likeness_int
    rw [h4]
  unfold slices_BinarySearchFunc_face_Likeness_int_j1 at hfix
  have none_of : (∀ x ∈ l, x.Id ≠ id) → l.any (has id) = false := fun h => by
    rw [List.any_eq_false]; intro x hx; simp [has, h x hx]
  rcases Nat.lt_or_ge k l.length with hk | hk
  · rw [decT (by omega), cnd_true, gAt_nat hk, bnd_pure] at hfix
    unfold face_at_1 at hfix
    have hge := h3 k hk (Nat.le_refl _)
    simp at hge
    rw [decF (by omega), cnd_false] at hfix
    by_cases hgt : id < l[k].Id
    · rw [decT hgt, cnd_true, bnd_pure, bnd_pure] at hfix
      refine ⟨_, _, hfix, ?_, fun h => by simp at h⟩
      rw [none_of]; rfl
      intro x hx
      obtain ⟨j, hj, rfl⟩ := List.getElem_of_mem hx
      rcases Nat.lt_or_ge j k with h | h
      · have := h2 j hj h; simp at this; omega
      · rcases Nat.lt_or_ge k j with h' | h'
        · have := hp k j hk hj h'; omega
        · have : j = k := by omega
          subst this; omega
    · rw [decF hgt, cnd_false, bnd_pure, bnd_pure] at hfix
      have he : l[k].Id = id := by omega
      have hany : l.any (has id) = true := List.any_eq_true.2 ⟨_, List.getElem_mem hk, by simp [has, he]⟩
      refine ⟨_, _, hfix, by rw [hany]; rfl, fun _ => ?_⟩
      unfold idx
      have : l.findIdx? (has id) = some k := by
        rw [List.findIdx?_eq_some_iff_getElem]
        refine ⟨hk, by simp [has, he], fun j hj => ?_⟩
        have := h2 j (by omega) hj
        simp at this
        simp [has]; omega
      rw [this]
  · rw [decF (by omega), cnd_false, bnd_pure] at hfix
    refine ⟨_, _, hfix, ?_, fun h => by simp at h⟩
    rw [none_of]
    intro x hx
    obtain ⟨j, hj, rfl⟩ := List.getElem_of_mem hx
    have := h2 j hj (by omega); simp at this; omega

theorem bcontains_eq (l : List Int) (n : Int) (hr : l.Pairwise fun x y => x < y) (hl : l.length ≤ 1000000000000000) : face_contains l n = some (decide (n ∈ l)) := by
  have hp := List.pairwise_iff_getElem.1 hr
  have hless : ∀ a b, cmp_Less_int a b = some (decide (a < b)) := fun a b => by
    unfold cmp_Less_int cmp_isNaN_int; simp
  obtain ⟨k, h1, h2, h3, h4⟩ := bin_loop (F := fun next2 s => slices_BinarySearch_int_l2 l n next2 s.1 s.2) l (fun x => decide (x < n)) (fun i j hi hj hij h => by have := hp i j hi hj hij; simp at h ⊢; omega) (slices_BinarySearch_int_j1 l n)
    (fun next i j h hij hj => by
      obtain ⟨f1, f2⟩ := half (x := (i : Int) + j) (by omega)
      rw [show ((i : Int) + j) / 2 = (((i + j) / 2 : Nat) : Int) by omega] at f1 f2
      simp only [slices_BinarySearch_int_l2]
      rw [decT (by omega), cnd_true, gI_ok (by omega), bnd_pure, f1, bnd_pure, f2, gAt_nat h, bnd_pure, hless, bnd_pure]
      by_cases hlt : l[(i + j) / 2] < n
      · rw [decT hlt, cnd_true, gI_ok (by omega), bnd_pure, if_pos rfl]
      · rw [decF hlt, cnd_false, if_neg (by simp)])
    (fun next i hi => by
      simp only [slices_BinarySearch_int_l2]
      rw [decF (by omega), cnd_false])
  unfold face_contains slices_BinarySearch_int
  rw [h4]
  unfold slices_BinarySearch_int_j1 slices_isNaN_int
  rcases Nat.lt_or_ge k l.length with hk | hk
  · rw [decT (by omega), cnd_true, gAt_nat hk, bnd_pure]
    have hge := h3 k hk (Nat.le_refl _)
    simp at hge
    by_cases he : l[k] = n
    · rw [decT he, cnd_true, bnd_pure, decT (he ▸ List.getElem_mem hk)]
    · rw [decF he, cnd_false, bnd_pure, bnd_pure, decF (by simp), cnd_false, bnd_pure]
      rw [decF]
      intro hm
      obtain ⟨j, hj, hje⟩ := List.getElem_of_mem hm
      rcases Nat.lt_or_ge j k with h | h
      · have := h2 j hj h; simp at this; omega
      · rcases Nat.lt_or_ge k j with h' | h'
        · have := hp k j hk hj h'; omega
        · have : j = k := by omega
          subst this; omega
  · rw [decF (by omega), cnd_false, bnd_pure]
    rw [decF]
    intro hm
    obtain ⟨j, hj, hje⟩ := List.getElem_of_mem hm
    have := h2 j hj (by omega); simp at this; omega
end Go.M

/- FacePeople in plain Lean, second part: distances, lists of photos, scores. Conditions: few elements. -/
namespace Go.M
open Go.Md Go.Pl
set_option linter.unusedVariables false

/-- How far two are apart. -/
def farS (u v : Nat → Int) (k : Nat) (s : Int) : Int := (List.range' k (12 - k)).foldl (fun s j => s + (u j - v j) * (u j - v j)) s
def farV (u v : Nat → Int) : Int := farS u v 0 0

theorem sq_bd {x : Int} (hx : -254 ≤ x ∧ x ≤ 254) : 0 ≤ x * x ∧ x * x ≤ 64516 := by
  refine ⟨?_, ?_⟩
  · rcases Int.le_total 0 x with h0 | h0
    · exact Int.mul_nonneg h0 h0
    · exact Int.mul_nonneg_of_nonpos_of_nonpos h0 h0
  · rcases Int.le_total 0 x with h0 | h0
    · have := Int.mul_le_mul hx.2 hx.2 h0 (by omega); omega
    · have := Int.mul_le_mul (show -x ≤ 254 by omega) (show -x ≤ 254 by omega) (by omega) (by omega)
      rw [Int.neg_mul_neg] at this; omega

theorem farS_bd (u v : Nat → Int) (hu : vecF u = 0) (hv : vecF v = 0) : ∀ (m k : Nat) (s : Int), k + m = 12 → 0 ≤ s → s ≤ farS u v k s ∧ farS u v k s ≤ s + m * 64516 := by
  intro m
  induction m with
  | zero => intro k s h hs; have : k = 12 := by omega
            subst this; simp [farS]
  | succ m ih =>
    intro k s h hs
    have h1 := vecF_ok hu k (by omega)
    have h2 := vecF_ok hv k (by omega)
    have h3 := sq_bd (x := u k - v k) (by omega)
    have e : farS u v k s = farS u v (k + 1) (s + (u k - v k) * (u k - v k)) := by
      unfold farS
      rw [show 12 - k = (12 - (k + 1)) + 1 from by omega, List.range'_succ, List.foldl_cons]
    have := ih (k + 1) (s + (u k - v k) * (u k - v k)) (by omega) (by omega)
    rw [e]
    omega

theorem farV_bd (u v : Nat → Int) (hu : vecF u = 0) (hv : vecF v = 0) : 0 ≤ farV u v ∧ farV u v ≤ 774192 := by
  have := farS_bd u v hu hv 12 0 0 (by omega) (by omega)
  unfold farV; omega

theorem farV_symm (u v : Nat → Int) : farV u v = farV v u := by
  have : (fun (s : Int) (j : Nat) => s + (u j - v j) * (u j - v j)) = fun s j => s + (v j - u j) * (v j - u j) := by
    funext s j
    rw [show v j - u j = -(u j - v j) by omega, Int.neg_mul_neg]
  unfold farV farS
  rw [this]

theorem far_eq (u v : Nat → Int) (hu : vecF u = 0) (hv : vecF v = 0) : face_far u v = some (farV u v) := by
  unfold face_far
  refine up2r (σ := Int) 12 (fun k s => some (farS u v k s)) (fun k s => 0 ≤ s ∧ s ≤ k * 64516) (fun next k s hk hI ih => ?_) 0 (by simp)
  unfold face_far_l1
  by_cases h : k < 12
  · have h1 := vecF_ok hu k h
    have h2 := vecF_ok hv k h
    have h3 := sq_bd (x := u k - v k) (by omega)
    simp (disch := omega) only [cnd_if, gI_ok, gIx_nat, bnd_pure, if_pos, if_neg]
    rw [ih _ h (by omega)]
    unfold farS
    rw [show 12 - k = (12 - (k + 1)) + 1 from by omega, List.range'_succ, List.foldl_cons]
  · have : k = 12 := by omega
    subst this
    rfl

theorem concat_eq (a b : List Int) (ha : a.length + b.length ≤ 35184372088832) : slices_Concat_int [a, b] = some (a ++ b) := by
  unfold slices_Concat_int
  refine (fix_goto (F := fun next3 s => slices_Concat_int_l3 [a, b] next3 s.1 s.2) ((a.length : Int), 1) fun next => ?_).trans ((fix_goto (F := fun next3 s => slices_Concat_int_l3 [a, b] next3 s.1 s.2) ((a.length : Int) + (b.length : Int), 2) fun next => ?_).trans (fix_done fun next => ?_))
  · show slices_Concat_int_l3 [a, b] next 0 0 = _
    unfold slices_Concat_int_l3
    rw [decT (by simp), cnd_true, show gAt [a, b] 0 = some a from rfl, bnd_pure, gI_ok (by omega), bnd_pure, decF (by omega), cnd_false, gI_ok (by omega), bnd_pure]
    simp
  · show slices_Concat_int_l3 [a, b] next (a.length : Int) 1 = _
    unfold slices_Concat_int_l3
    rw [decT (by simp), cnd_true, show gAt [a, b] 1 = some b from rfl, bnd_pure, gI_ok (by omega), bnd_pure, decF (by omega), cnd_false, gI_ok (by omega), bnd_pure]
    rfl
  · show slices_Concat_int_l3 [a, b] next ((a.length : Int) + (b.length : Int)) 2 = _
    unfold slices_Concat_int_l3
    rw [decF (by simp), cnd_false]
    unfold slices_Concat_int_j1
    rw [gGroC_ok (by omega), bnd_pure]
    have hc : ((a.length : Int) + (b.length : Int)).toNat = a.length + b.length := by omega
    refine (fix_goto (F := fun next2 s => slices_Concat_int_l2 [a, b] ((a.length : Int) + (b.length : Int)).toNat next2 s.1 s.2) (1, a) fun next => ?_).trans ((fix_goto (F := fun next2 s => slices_Concat_int_l2 [a, b] ((a.length : Int) + (b.length : Int)).toNat next2 s.1 s.2) (2, a ++ b) fun next => ?_).trans (fix_done fun next => ?_))
    · show slices_Concat_int_l2 [a, b] _ next 0 [] = _
      unfold slices_Concat_int_l2
      rw [decT (by simp), cnd_true, show gAt [a, b] 0 = some a from rfl, bnd_pure, gApC_ok (by rw [hc]; simp; omega), bnd_pure, gI_ok (by omega), bnd_pure]
      rfl
    · show slices_Concat_int_l2 [a, b] _ next 1 a = _
      unfold slices_Concat_int_l2
      rw [decT (by simp), cnd_true, show gAt [a, b] 1 = some b from rfl, bnd_pure, gApC_ok (by rw [hc]; omega), bnd_pure, gI_ok (by omega), bnd_pure]
      rfl
    · show slices_Concat_int_l2 [a, b] _ next 2 (a ++ b) = _
      unfold slices_Concat_int_l2
      rw [decF (by simp), cnd_false]

theorem cmpFrom_len (p : Int) : ∀ l : List Int, (cmpFrom p l).length ≤ l.length
  | [] => by simp [cmpFrom]
  | y :: l => by
    unfold cmpFrom
    split
    · have := cmpFrom_len p l; simp; omega
    · have := cmpFrom_len y l; simp; omega
theorem cmpFrom_lt : ∀ (l : List Int) (p : Int), (p :: l).Pairwise (fun x y => decide (x ≤ y) = true) → ((cmpFrom p l).length < l.length ↔ ¬ (p :: l).Nodup)
  | [], p, _ => by simp [cmpFrom]
  | y :: l, p, h => by
    have hp := List.pairwise_cons.1 h
    have ih := cmpFrom_lt l y hp.2
    unfold cmpFrom
    by_cases he : y = p
    · subst he
      rw [if_pos rfl]
      have := cmpFrom_len y l
      simp
      omega
    · rw [if_neg he]
      simp only [List.length_cons, Nat.add_lt_add_iff_right]
      rw [ih]
      refine not_congr ⟨fun hn => List.nodup_cons.2 ⟨fun hm => ?_, hn⟩, fun hn => (List.nodup_cons.1 hn).2⟩
      have hy := hp.1 y (by simp)
      simp at hy
      rcases List.mem_cons.1 hm with h1 | h1
      · exact he h1.symm
      · have := (List.pairwise_cons.1 hp.2).1 p h1
        simp at this; omega
theorem cmpL_lt (l : List Int) (h : l.Pairwise (fun x y => decide (x ≤ y) = true)) : (cmpL l).length < l.length ↔ ¬ l.Nodup := by
  cases l with
  | nil => simp [cmpL]
  | cons p l => simp only [cmpL, List.length_cons, Nat.add_lt_add_iff_right]; exact cmpFrom_lt l p h

def sorted (l : List Int) : List Int := l.mergeSort fun x y => decide (x ≤ y)
theorem sorted_pw (l : List Int) : (sorted l).Pairwise fun x y => decide (x ≤ y) = true :=
  List.pairwise_mergeSort (le := fun x y => decide (x ≤ y)) (fun a b c h1 h2 => by simp at *; omega) (fun a b => by simp; omega) l
theorem sorted_perm (l : List Int) : (sorted l).Perm l := List.mergeSort_perm l _
theorem sorted_len (l : List Int) : (sorted l).length = l.length := List.length_mergeSort _

/-- Whether one is there twice. -/
theorem with_eq (l : List Int) (hl : l.length ≤ 35184372088832) : ∃ w, face_with l [] = some w ∧ (w.length < l.length ↔ ¬ l.Nodup) := by
  unfold face_with
  rw [concat_eq l [] (by simpa using hl), bnd_pure, List.append_nil]
  unfold gSortI
  rw [if_pos (by omega), bnd_pure]
  unfold gCmpI
  rw [if_pos (by rw [List.length_mergeSort]; omega), bnd_pure]
  refine ⟨_, rfl, ?_⟩
  have h := cmpL_lt (sorted l) (sorted_pw l)
  rw [sorted_len] at h
  exact h.trans (not_congr (sorted_perm l).nodup_iff)

/-- Right likenesses. -/
structure Good (l : List T_face_Likeness) : Prop where
  len : l.length ≤ 300
  rise : Rise l
  vec : ∀ x ∈ l, vecF x.Vec = 0

theorem likeF_get (l : List T_face_Likeness) (j : Nat) (h : j < l.length) (h0 : likeF l j = 0) : vecF l[j].Vec = 0 ∧ ∀ (i : Nat) (hi : i + 1 = j), l[i].Id < l[j].Id := by
  unfold likeF at h0
  rw [at_D h] at h0
  split at h0
  · cases h0
  split at h0
  · cases h0
  · rename_i h1 h2
    refine ⟨h0, fun i hi => ?_⟩
    subst hi
    rw [show i + 1 - 1 = i from rfl, at_D (by omega)] at h2
    omega

theorem good_of (l : List T_face_Likeness) (hl : l.length ≤ 300) (h : firstE (likeF l) l.length 0 = 0) : Good l := by
  have hj := fun (j : Nat) (hj : j < l.length) => likeF_get l j hj (firstE_zero h j (Nat.zero_le _) (by omega))
  refine ⟨hl, List.pairwise_iff_getElem.2 ?_, fun x hx => ?_⟩
  · have step : ∀ d i (hi : i < l.length) (hd : i + d + 1 < l.length), l[i].Id < l[i + d + 1].Id := by
      intro d
      induction d with
      | zero => intro i hi hd; exact (hj (i + 0 + 1) hd).2 i rfl
      | succ d ih =>
        intro i hi hd
        have h1 := ih i hi (by omega)
        have h2 := (hj (i + (d + 1) + 1) hd).2 (i + d + 1) rfl
        omega
    intro i j hi hj hij
    have := step (j - i - 1) i hi (by omega)
    simpa [show i + (j - i - 1) + 1 = j by omega] using this
  · obtain ⟨j, hj', rfl⟩ := List.getElem_of_mem hx
    exact (hj j hj').1

/-- The likeness with an Id. -/
def like (l : List T_face_Likeness) (id : Int) : T_face_Likeness := (l.find? (has id)).getD default
theorem any_idx {l : List T_face_Likeness} {id : Int} (h : l.any (has id) = true) : ∃ (k : Nat) (hk : k < l.length), idx (has id) l = k ∧ l[k] = like l id ∧ l[k].Id = id := by
  have h0 := idx_nn (has id) l
  rw [h] at h0
  unfold idx at h0 ⊢
  cases hf : l.findIdx? (has id) with
  | none => rw [hf] at h0; simp at h0
  | some k =>
    have h1 := List.findIdx?_eq_some_iff_getElem.1 hf
    obtain ⟨hk, h2, h3⟩ := h1
    refine ⟨k, hk, rfl, ?_, by simpa [has] using h2⟩
    unfold like
    have : l.find? (has id) = some l[k] := by
      rw [List.find?_eq_some_iff_getElem]
      exact ⟨h2, k, hk, rfl, fun j hj => by simpa using h3 j hj⟩
    rw [this]; rfl
theorem like_mem {l : List T_face_Likeness} {id : Int} (h : l.any (has id) = true) : like l id ∈ l := by
  obtain ⟨k, hk, _, h2, _⟩ := any_idx h
  rw [← h2]; exact List.getElem_mem hk
theorem idx_neg {l : List T_face_Likeness} {id : Int} : decide (idx (has id) l < 0) = !l.any (has id) := by
  rw [← idx_nn]
  by_cases h : idx (has id) l < 0
  · rw [decT h, decF (by omega)]; rfl
  · rw [decF h, decT (by omega)]; rfl

theorem good_at {l : List T_face_Likeness} (hg : Good l) {id : Int} (h : l.any (has id) = true) : ∃ k : Nat, ∃ hk : k < l.length, face_at l id = some ((k : Int), true) ∧ gAt l (k : Int) = some (like l id) ∧ R_LikeAt l id = some (k : Int) := by
  have := hg.len
  obtain ⟨i, b, h1, h2, h3⟩ := at_eq l id hg.rise (by omega)
  rw [h] at h2
  obtain ⟨k, hk, h4, h5, _⟩ := any_idx h
  refine ⟨k, hk, ?_, ?_, ?_⟩
  · rw [h1, h2, h3 h2, h4]
  · rw [gAt_nat hk, h5]
  · rw [likeAt_eq l id (by omega), h4]
theorem good_at_not {l : List T_face_Likeness} (hg : Good l) {id : Int} (h : l.any (has id) = false) : ∃ i : Int, face_at l id = some (i, false) := by
  have := hg.len
  obtain ⟨i, b, h1, h2, h3⟩ := at_eq l id hg.rise (by omega)
  rw [h] at h2
  exact ⟨i, by rw [h1, h2]⟩

/-! ### scores -/

def dist (l : List T_face_Likeness) (id k : Int) : Int := farV (like l id).Vec (like l k).Vec
def addF (l : List T_face_Likeness) (id : Int) (s : List Int) (k : Int) : List Int := if k = id then s else s ++ [dist l id k]

theorem dist_bd {l : List T_face_Likeness} (hg : Good l) {id k : Int} (h1 : l.any (has id) = true) (h2 : l.any (has k) = true) : 0 ≤ dist l id k ∧ dist l id k ≤ 774192 := farV_bd _ _ (hg.vec _ (like_mem h1)) (hg.vec _ (like_mem h2))

theorem score_loop {l : List T_face_Likeness} (hg : Good l) (p : T_face_Person) (id : Int) (hp : p.Likes.length ≤ 17592186044000) (hid : l.any (has id) = true) (hk : ∀ k ∈ p.Likes, l.any (has k) = true) :
    face_score l p id = face_score_j1 (p.Likes.foldl (addF l id) []) := by
  unfold face_score
  obtain ⟨n, hn, a1, a2, a3⟩ := good_at hg hid
  rw [a1, bnd_pure]
  refine fix_list (F := fun next4 s => face_score_l4 l p id ((n : Int), true) next4 s.1 s.2) p.Likes (addF l id) face_score_j1 (fun k s => s.length ≤ k) (fun next k s hk' hs => ?_) (fun next s _ => ?_) [] (Nat.zero_le _)
  · simp only [face_score_l4]
    obtain ⟨m, hm, b1, b2, b3⟩ := good_at hg (hk _ (List.getElem_mem hk'))
    unfold addF
    rw [decT (by omega), cnd_true, gAt_nat hk', bnd_pure]
    by_cases he : p.Likes[k] = id
    · rw [decF (by simpa using he), cnd_false, if_pos he]
      simp only [face_score_j5]
      rw [gI_ok (by omega), bnd_pure]
      exact ⟨rfl, by omega⟩
    · rw [decT he, cnd_true, if_neg he, b1, bnd_pure, a2, bnd_pure, b2, bnd_pure, far_eq _ _ (hg.vec _ (like_mem hid)) (hg.vec _ (like_mem (hk _ (List.getElem_mem hk')))), bnd_pure, gApp_ok (by simp; omega), bnd_pure]
      simp only [face_score_j5]
      rw [gI_ok (by omega), bnd_pure]
      exact ⟨rfl, by simp; omega⟩
  · simp only [face_score_l4]
    rw [decF (by omega), cnd_false]

theorem scoreOf_loop {l : List T_face_Likeness} (hg : Good l) (p : T_face_Person) (id : Int) (hp : p.Likes.length ≤ 17592186044000) (hid : l.any (has id) = true) (hk : ∀ k ∈ p.Likes, l.any (has k) = true) :
    R_ScoreOf l p id = R_ScoreOf_j1 (p.Likes.foldl (addF l id) []) := by
  unfold R_ScoreOf
  obtain ⟨n, hn, a1, a2, a3⟩ := good_at hg hid
  refine fix_list (F := fun next4 s => R_ScoreOf_l4 l p id next4 s.1 s.2) p.Likes (addF l id) R_ScoreOf_j1 (fun k s => s.length ≤ k) (fun next k s hk' hs => ?_) (fun next s _ => ?_) [] (Nat.zero_le _)
  · simp only [R_ScoreOf_l4]
    obtain ⟨m, hm, b1, b2, b3⟩ := good_at hg (hk _ (List.getElem_mem hk'))
    unfold addF
    rw [decT (by omega), cnd_true, gAt_nat hk', bnd_pure]
    by_cases he : p.Likes[k] = id
    · rw [decF (by simpa using he), cnd_false, if_pos he]
      simp only [R_ScoreOf_j5]
      rw [gI_ok (by omega), bnd_pure]
      exact ⟨rfl, by omega⟩
    · rw [decT he, cnd_true, if_neg he, b3, bnd_pure, b2, bnd_pure, a3, bnd_pure, a2, bnd_pure, R_FarOf_eq, far_eq _ _ (hg.vec _ (like_mem (hk _ (List.getElem_mem hk')))) (hg.vec _ (like_mem hid)), bnd_pure, farV_symm, gApp_ok (by simp; omega), bnd_pure]
      simp only [R_ScoreOf_j5]
      rw [gI_ok (by omega), bnd_pure]
      exact ⟨rfl, by simp; omega⟩
  · simp only [R_ScoreOf_l4]
    rw [decF (by omega), cnd_false]

theorem fars_all {l : List T_face_Likeness} (hg : Good l) (id : Int) (hid : l.any (has id) = true) : ∀ (ks s : List Int), (∀ k ∈ ks, l.any (has k) = true) → (∀ x ∈ s, 0 ≤ x ∧ x ≤ 774192) → (∀ x ∈ ks.foldl (addF l id) s, 0 ≤ x ∧ x ≤ 774192) ∧ (ks.foldl (addF l id) s).length ≤ s.length + ks.length
  | [], s, _, h => ⟨h, by simp⟩
  | k :: ks, s, hk, h => by
    rw [List.foldl_cons]
    have := fars_all hg id hid ks (addF l id s k) (fun k' h' => hk k' (List.mem_cons_of_mem _ h')) (by
      unfold addF
      split
      · exact h
      · intro x hx
        rcases List.mem_append.1 hx with hx | hx
        · exact h x hx
        · simp at hx; subst hx; exact dist_bd hg hid (hk k (by simp)))
    refine ⟨this.1, Nat.le_trans this.2 ?_⟩
    unfold addF
    split <;> simp <;> omega

theorem sum_loop (t : List Int) (ht : t.length ≤ 3) (hb : ∀ x ∈ t, 0 ≤ x ∧ x ≤ 774192) (h0 : 0 < t.length) : ∃ v, fix (fun next3 s => face_score_l3 t next3 s.1 s.2) (0, 0) = some v := by
  have h := fix_run (F := fun next3 s => face_score_l3 t next3 s.1 s.2) (fun s : Int × Int => ∃ k : Nat, s.2 = k ∧ k ≤ t.length ∧ 0 ≤ s.1 ∧ s.1 ≤ k * 774192) (fun s => t.length - s.2.toNat) (fun _ => True) (by
    rintro ⟨x, _⟩ ⟨k, rfl, hk, h1, h2⟩
    simp only [face_score_l3]
    simp only at h1 h2
    rcases Nat.lt_or_ge k t.length with h | h
    · have := hb _ (List.getElem_mem h)
      refine .inr ⟨(x + t[k], (k : Int) + 1), ⟨k + 1, by simp, by omega, by simp only; omega, by simp only; omega⟩, by simp only; omega, fun next => ?_⟩
      rw [decT (by omega), cnd_true, gAt_nat h, bnd_pure, gI_ok (by omega), bnd_pure, gI_ok (by omega), bnd_pure]
    · refine .inl ⟨x.tdiv (t.length : Int), trivial, fun next => ?_⟩
      rw [decF (by omega), cnd_false]
      simp only [face_score_j2]
      rw [gQuo_ok (by omega) (by omega), bnd_pure]) (0, 0) ⟨0, rfl, by omega, by simp, by simp⟩
  obtain ⟨v, h1, _⟩ := h
  exact ⟨v, h1⟩

theorem scores_j1 (s : List Int) (hl : s.length ≤ 17592186044000) (hb : ∀ x ∈ s, 0 ≤ x ∧ x ≤ 774192) : ∃ v, face_score_j1 s = some v ∧ R_ScoreOf_j1 s = some v := by
  unfold face_score_j1 R_ScoreOf_j1 gSortI
  rw [if_pos (by omega), bnd_pure]
  show ∃ v, (bnd (gCut (sorted s) 0 (min 3 ((sorted s).length : Int))) fun t60 => _) = some v ∧ _
  rw [sorted_len]
  have hcut : gCut (sorted s) 0 (min 3 (s.length : Int)) = some ((sorted s).take (min 3 s.length)) := by
    rw [gCut_to (by rw [sorted_len]; omega)]
    congr 2
    omega
  rw [hcut, bnd_pure]
  by_cases h0 : s.length = 0
  · rw [decT (by rw [List.length_take, sorted_len]; omega), cnd_true, decT (by omega), cnd_true]
    exact ⟨_, rfl, rfl⟩
  · rw [decF (by rw [List.length_take, sorted_len]; omega), cnd_false, decF (by omega), cnd_false, bnd_pure]
    obtain ⟨v, hv⟩ := sum_loop ((sorted s).take (min 3 s.length)) (by rw [List.length_take]; omega) (fun x hx => hb x ((sorted_perm s).mem_iff.1 (List.mem_of_mem_take hx))) (by rw [List.length_take, sorted_len]; omega)
    refine ⟨v, hv, ?_⟩
    show (bnd (gCut (sorted s) 0 (min ((sorted s).length : Int) 3)) fun t51 => _) = some v
    rw [sorted_len, Int.min_comm, hcut, bnd_pure]
    exact hv

/-- Both scores are one. -/
theorem scores {l : List T_face_Likeness} (hg : Good l) (p : T_face_Person) (id : Int) (hp : p.Likes.length ≤ 17592186044000) (hid : l.any (has id) = true) (hk : ∀ k ∈ p.Likes, l.any (has k) = true) :
    ∃ v, face_score l p id = some v ∧ R_ScoreOf l p id = some v := by
  rw [score_loop hg p id hp hid hk, scoreOf_loop hg p id hp hid hk]
  have h := fars_all hg id hid p.Likes [] hk (by simp)
  exact scores_j1 _ (by have := h.2; simp at this; omega) h.1
end Go.M

/- FacePeople in plain Lean, third part: people that are right. Conditions: few elements. -/
namespace Go.M
open Go.Md Go.Pl
set_option linter.unusedVariables false

theorem scanC {ρ : Type} {F : (Int → Option ρ) → Int → Option ρ} (n : Nat) (c : Nat → Int) (E : Int → ρ) (J : Option ρ) (step : ∀ (next : Int → Option ρ) (k : Nat), k < n → F next (k : Int) = if c k = 0 then next ((k : Int) + 1) else some (E (c k)))
    (last : ∀ next, F next (n : Int) = J) : fix F 0 = if firstE c n 0 = 0 then J else some (E (firstE c n 0)) := by
  have h := up (F := F) n (fun k => if firstE c (n - k) k = 0 then J else some (E (firstE c (n - k) k))) (by
    intro next k hk ih
    by_cases h : k < n
    · rw [step next k h, show n - k = (n - (k + 1)) + 1 from by omega]
      simp only [firstE]
      by_cases h0 : c k = 0
      · simp only [h0, if_true]; rw [ih h]
      · simp only [h0, if_false]
    · have : k = n := by omega
      subst this
      rw [last, Nat.sub_self]; rfl)
  simpa using h

/-! ### names -/
theorem ofStr_any (s : List UInt8) : (ofStr s).any (fun c => decide (c < 32)) = s.any fun c => decide (c.toNat < 32) := by
  unfold ofStr
  rw [List.any_map]
  congr 1
  funext c
  simp only [Function.comp]
  congr 1
  simp; omega

def titleB (s : List UInt8) : Bool := decide (1 ≤ s.length ∧ s.length ≤ 60) && !s.any fun c => decide (c.toNat < 32)

theorem isTitle_eq (s : List UInt8) : face_isTitle s = some (titleB s) := by
  unfold face_isTitle titleB
  rw [outside_eq, bnd_pure]
  by_cases h : 1 ≤ s.length ∧ s.length ≤ 60
  · rw [decF (by omega), Bool.not_false, cnd_true, gByt_ok (by omega), bnd_pure, containsByte_eq (ofStr s) face_isTitle_1 (fun c => decide (c < 32)) (by unfold ofStr; rw [List.length_map]; omega) (fun _ _ => rfl), bnd_pure, ofStr_any, decT h, Bool.true_and]
  · rw [decT (by omega), Bool.not_true, cnd_false, decF h, Bool.false_and]

theorem TitleOk_eq (s : List UInt8) : R_TitleOk s = some (titleB s) := by
  unfold R_TitleOk titleB
  by_cases h1 : s.length < 1
  · rw [decT (by omega), cnd_true, decF (by omega), Bool.false_and]
  · rw [decF (by omega), cnd_false]
    by_cases h2 : 60 < s.length
    · rw [decT (by omega), cnd_true, decF (by omega), Bool.false_and]
    · rw [decF (by omega), cnd_false, decT (by omega), Bool.true_and]
      have h := up (F := fun next1 s' => R_TitleOk_l1 s next1 s') s.length (fun k => some (!(s.drop k).any fun c => decide (c.toNat < 32))) (fun next k hk ih => by
        simp only [R_TitleOk_l1]
        rcases Nat.lt_or_ge k s.length with h | h
        · rw [decT (by omega), cnd_true, gOct_nat h, bnd_pure, List.drop_eq_getElem_cons h, List.any_cons]
          by_cases hc : s[k].toNat < 32
          · rw [decT (by omega), cnd_true, decT hc]; rfl
          · rw [decF (by omega), cnd_false, decF hc, gI_ok (by omega), bnd_pure, ih h, Bool.false_or]
        · have : k = s.length := by omega
          subst this
          rw [decF (by omega), cnd_false, List.drop_length]; rfl)
      simpa using h

/-! ### lists of Ids -/
def idsC (l : List T_face_Likeness) (ids : List Int) (k : Nat) : Int :=
  if l.any (has (ids.getD k 0)) = false then 7 else if 0 < k ∧ ids.getD k 0 ≤ ids.getD (k - 1) 0 then 5 else 0
def idsE (l : List T_face_Likeness) (ids : List Int) : Int := firstE (idsC l ids) ids.length 0
theorem at_D0 {l : List Int} {k : Nat} (h : k < l.length) : l.getD k 0 = l[k] := by
  rw [List.getD_eq_getElem?_getD, List.getElem?_eq_getElem h]; rfl

theorem idsC_get (l : List T_face_Likeness) (ids : List Int) (j : Nat) (h : j < ids.length) (h0 : idsC l ids j = 0) : l.any (has ids[j]) = true ∧ ∀ (i : Nat) (hi : i + 1 = j), ids[i] < ids[j] := by
  unfold idsC at h0
  rw [at_D0 h] at h0
  split at h0
  · cases h0
  split at h0
  · cases h0
  · rename_i h1 h2
    refine ⟨by simpa using h1, fun i hi => ?_⟩
    subst hi
    rw [show i + 1 - 1 = i from rfl, at_D0 (by omega)] at h2
    omega

/-- Rising Ids of likenesses that are there. -/
structure IdsOk (l : List T_face_Likeness) (ids : List Int) : Prop where
  all : ∀ k ∈ ids, l.any (has k) = true
  rise : ids.Pairwise fun x y => x < y

theorem ids_of {l : List T_face_Likeness} {ids : List Int} (h : idsE l ids = 0) : IdsOk l ids := by
  have hj := fun (j : Nat) (hj : j < ids.length) => idsC_get l ids j hj (firstE_zero h j (Nat.zero_le _) (by omega))
  refine ⟨fun x hx => ?_, List.pairwise_iff_getElem.2 ?_⟩
  · obtain ⟨j, hj', rfl⟩ := List.getElem_of_mem hx
    exact (hj j hj').1
  · have step : ∀ d i (hi : i < ids.length) (hd : i + d + 1 < ids.length), ids[i] < ids[i + d + 1] := by
      intro d
      induction d with
      | zero => intro i hi hd; exact (hj (i + 0 + 1) hd).2 i rfl
      | succ d ih =>
        intro i hi hd
        have h1 := ih i hi (by omega)
        have h2 := (hj (i + (d + 1) + 1) hd).2 (i + d + 1) rfl
        omega
    intro i j hi hj hij
    have := step (j - i - 1) i hi (by omega)
    simpa [show i + (j - i - 1) + 1 = j by omega] using this

theorem checkIds_eq {l : List T_face_Likeness} (hg : Good l) (ids : List Int) (hl : ids.length ≤ 17592186044000) : face_checkIds l ids = some (idsE l ids) := by
  unfold face_checkIds idsE
  refine scan ids.length _ (fun next k hk => ?_) fun next => ?_
  · simp only [face_checkIds_l1]
    unfold idsC
    rw [decT (by omega), cnd_true, gAt_nat hk, bnd_pure, at_D0 hk]
    cases hany : l.any (has ids[k]) with
    | false =>
      obtain ⟨i, e⟩ := good_at_not hg hany
      rw [e, bnd_pure]
      simp
    | true =>
      obtain ⟨n, hn, e, _⟩ := good_at hg hany
      rw [e, bnd_pure]
      have e2 : ∀ (x y : Option Int), cnd (!((n : Int), true).2) x y = y := fun _ _ => rfl
      have e3 : ∀ (x y : Int), (if true = false then x else y) = y := fun _ _ => if_neg (by simp)
      rw [e2, e3]
      unfold face_checkIds_j2
      by_cases h0 : 0 < k
      · rw [decT (by omega), cnd_true, gI_ok (by omega), bnd_pure, show (k : Int) - 1 = ((k - 1 : Nat) : Int) by omega, gAt_nat (by omega), bnd_pure, at_D0 (show k - 1 < ids.length by omega)]
        by_cases h1 : ids[k] ≤ ids[k - 1]
        · rw [decT h1, cnd_true, show (if 0 < k ∧ ids[k] ≤ ids[k - 1] then (5 : Int) else 0) = 5 from if_pos ⟨h0, h1⟩]; simp
        · rw [decF h1, cnd_false, show (if 0 < k ∧ ids[k] ≤ ids[k - 1] then (5 : Int) else 0) = 0 from if_neg (fun h => h1 h.2), gI_ok (by omega), bnd_pure]; simp
      · rw [decF (by omega), cnd_false, show (if 0 < k ∧ ids[k] ≤ ids.getD (k - 1) 0 then (5 : Int) else 0) = 0 from if_neg (fun h => h0 h.1), gI_ok (by omega), bnd_pure]; simp
  · simp only [face_checkIds_l1]
    rw [decF (by omega), cnd_false]

theorem fault_ids {l : List T_face_Likeness} (hg : Good l) (ids : List Int) (hl : ids.length ≤ 17592186044000) (x : Int) (next8 : Int → Option Int) :
    fix (fun next10 s => R_PeopleFault_l10 l x next8 ids next10 s) 0 = if idsE l ids = 0 then R_PeopleFault_j9 x next8 else some (idsE l ids) := by
  have h300 := hg.len
  refine scanC ids.length (idsC l ids) (fun e => e) _ (fun next k hk => ?_) fun next => ?_
  · simp only [R_PeopleFault_l10]
    unfold idsC
    rw [decT (by omega), cnd_true, gAt_nat hk, bnd_pure, at_D0 hk, likeAt_eq l _ (by omega), bnd_pure, idx_neg]
    cases hany : l.any (has ids[k]) with
    | false => simp
    | true =>
      have e2 : ∀ (x y : Option Int), cnd (!true) x y = y := fun _ _ => rfl
      have e3 : ∀ (x y : Int), (if true = false then x else y) = y := fun _ _ => if_neg (by simp)
      rw [e2, e3]
      unfold R_PeopleFault_j11
      by_cases h0 : 0 < k
      · rw [decT (by omega), cnd_true, gI_ok (by omega), bnd_pure, show (k : Int) - 1 = ((k - 1 : Nat) : Int) by omega, gAt_nat (by omega), bnd_pure, at_D0 (show k - 1 < ids.length by omega)]
        by_cases h1 : ids[k] ≤ ids[k - 1]
        · rw [decT h1, cnd_true, show (if 0 < k ∧ ids[k] ≤ ids[k - 1] then (5 : Int) else 0) = 5 from if_pos ⟨h0, h1⟩]; simp
        · rw [decF h1, cnd_false, show (if 0 < k ∧ ids[k] ≤ ids[k - 1] then (5 : Int) else 0) = 0 from if_neg (fun h => h1 h.2), gI_ok (by omega), bnd_pure]; simp
      · rw [decF (by omega), cnd_false, show (if 0 < k ∧ ids[k] ≤ ids.getD (k - 1) 0 then (5 : Int) else 0) = 0 from if_neg (fun h => h0 h.1), gI_ok (by omega), bnd_pure]; simp
  · simp only [R_PeopleFault_l10]
    rw [decF (by omega), cnd_false]

/-! ### a person -/
def both (p : T_face_Person) : Bool := p.Likes.any fun k => decide (k ∈ p.Nots)
def listE (l : List T_face_Likeness) (p : T_face_Person) : Int := if idsE l p.Likes ≠ 0 then idsE l p.Likes else if idsE l p.Nots ≠ 0 then idsE l p.Nots else if both p = true then 11 else 0
def personE (l : List T_face_Likeness) (p : T_face_Person) : Int := if titleB p.Name = false then 3 else listE l p
def PSz (p : T_face_Person) : Prop := p.Likes.length ≤ 17592186044000 ∧ p.Nots.length ≤ 17592186044000

theorem checkPerson_eq {l : List T_face_Likeness} (hg : Good l) (p : T_face_Person) (hp : PSz p) : face_checkPerson l p = some (personE l p) := by
  unfold face_checkPerson personE listE
  rw [isTitle_eq, bnd_pure]
  cases ht : titleB p.Name with
  | false => rfl
  | true =>
    simp only [Bool.not_true, cnd_false, Bool.true_eq_false, if_false]
    have e0 : ∀ next, face_checkPerson_l2 l p next 0 = if idsE l p.Likes ≠ 0 then some (idsE l p.Likes) else next 1 := fun next => by
      simp only [face_checkPerson_l2]
      rw [decT (by omega), cnd_true, show gAt [p.Likes, p.Nots] 0 = some p.Likes from rfl, bnd_pure, checkIds_eq hg _ hp.1, bnd_pure, cnd_if]
      split
      · rfl
      · rw [gI_ok (by omega), bnd_pure]; rfl
    have e1 : ∀ next, face_checkPerson_l2 l p next 1 = if idsE l p.Nots ≠ 0 then some (idsE l p.Nots) else next 2 := fun next => by
      simp only [face_checkPerson_l2]
      rw [decT (by omega), cnd_true, show gAt [p.Likes, p.Nots] 1 = some p.Nots from rfl, bnd_pure, checkIds_eq hg _ hp.2, bnd_pure, cnd_if]
      split
      · rfl
      · rw [gI_ok (by omega), bnd_pure]; rfl
    by_cases h0 : idsE l p.Likes ≠ 0
    · rw [if_pos h0]; exact fix_done fun next => by rw [e0, if_pos h0]
    · rw [if_neg h0]
      rw [fix_goto (1 : Int) fun next => by rw [e0, if_neg h0]]
      by_cases h1 : idsE l p.Nots ≠ 0
      · rw [if_pos h1]; exact fix_done fun next => by rw [e1, if_pos h1]
      · rw [if_neg h1]
        rw [fix_goto (2 : Int) fun next => by rw [e1, if_neg h1]]
        refine fix_done fun next => ?_
        simp only [face_checkPerson_l2, face_checkPerson_j1]
        rw [decF (by omega), cnd_false, containsFunc_eq p.Likes (face_checkPerson_1 p) (fun k => decide (k ∈ p.Nots)) (by have := hp.1; omega) (fun x _ => by
          unfold face_checkPerson_1
          rw [bcontains_eq p.Nots x (ids_of (by simpa using h1)).rise (by have := hp.2; omega), bnd_pure]), bnd_pure]
        show cnd (both p) _ _ = _
        cases both p <;> rfl

theorem fault_person {l : List T_face_Likeness} (hg : Good l) (p : T_face_Person) (hp : PSz p) (x : Int) (mp : List (Int × Bool)) (next1 : (Int × (List (Int × Bool))) → Option Int) :
    R_PeopleFault_j3 l x mp next1 p = if listE l p = 0 then R_PeopleFault_j5 l x mp next1 p else some (listE l p) := by
  unfold R_PeopleFault_j3 listE
  have e0 : ∀ next, R_PeopleFault_l8 l x mp next1 p next 0 = if idsE l p.Likes ≠ 0 then some (idsE l p.Likes) else next 1 := fun next => by
    simp only [R_PeopleFault_l8]
    rw [decT (by omega), cnd_true, show gAt [p.Likes, p.Nots] 0 = some p.Likes from rfl, bnd_pure, fault_ids hg _ hp.1]
    simp only [R_PeopleFault_j9]
    rw [gI_ok (by omega), bnd_pure]
    by_cases h : idsE l p.Likes = 0 <;> simp [h]
  have e1 : ∀ next, R_PeopleFault_l8 l x mp next1 p next 1 = if idsE l p.Nots ≠ 0 then some (idsE l p.Nots) else next 2 := fun next => by
    simp only [R_PeopleFault_l8]
    rw [decT (by omega), cnd_true, show gAt [p.Likes, p.Nots] 1 = some p.Nots from rfl, bnd_pure, fault_ids hg _ hp.2]
    simp only [R_PeopleFault_j9]
    rw [gI_ok (by omega), bnd_pure]
    by_cases h : idsE l p.Nots = 0 <;> simp [h]
  by_cases h0 : idsE l p.Likes ≠ 0
  · rw [if_pos h0, if_neg h0]; exact fix_done fun next => by rw [e0, if_pos h0]
  · rw [if_neg h0]
    rw [fix_goto (1 : Int) fun next => by rw [e0, if_neg h0]]
    by_cases h1 : idsE l p.Nots ≠ 0
    · rw [if_pos h1, if_neg h1]; exact fix_done fun next => by rw [e1, if_pos h1]
    · rw [if_neg h1]
      rw [fix_goto (2 : Int) fun next => by rw [e1, if_neg h1]]
      refine fix_done fun next => ?_
      simp only [R_PeopleFault_l8, R_PeopleFault_j4]
      rw [decF (by omega), cnd_false]
      have hsc := up (F := fun next7 s => R_PeopleFault_l7 l x mp next1 p next7 s) p.Likes.length (fun k => if ((p.Likes.drop k).any fun k => decide (k ∈ p.Nots)) = true then some 11 else R_PeopleFault_j5 l x mp next1 p) (fun next k hk ih => by
        simp only [R_PeopleFault_l7]
        rcases Nat.lt_or_ge k p.Likes.length with h | h
        · rw [decT (by omega), cnd_true, gAt_nat h, bnd_pure, contains_eq p.Nots _ (by have := hp.2; omega), bnd_pure, List.drop_eq_getElem_cons h, List.any_cons]
          by_cases hc : p.Likes[k] ∈ p.Nots
          · rw [decT hc, cnd_true]; rfl
          · rw [decF hc, cnd_false, Bool.false_or, gI_ok (by have := hp.1; omega), bnd_pure, ih h]
        · have : k = p.Likes.length := by omega
          subst this
          rw [decF (by omega), cnd_false, List.drop_length]; rfl)
      rw [hsc, List.drop_zero]
      show (if both p = true then _ else _) = _
      cases both p <;> simp

/-! ### what was taken -/
theorem mGet_mSet (m : List (Int × Bool)) (k : Int) (v : Bool) (x : Int) : mGet (mSet m k v) x = if x = k then some v else mGet m x := by
  unfold mGet mSet mHas
  induction m with
  | nil =>
    by_cases h : x = k
    · subst h; simp
    · have : ¬ k = x := fun e => h e.symm
      simp [h, this]
  | cons a m ih =>
    by_cases ha : a.1 = k
    · have e1 : ((a :: m).any fun p => decide (p.1 = k)) = true := by simp [ha]
      rw [if_pos e1, List.map_cons, if_pos ha, List.find?_cons, List.find?_cons]
      by_cases h : x = k
      · subst h; simp
      · have hk : ¬ k = x := fun e => h e.symm
        rw [decF hk, if_neg h, decF (show ¬ a.1 = x by rw [ha]; exact hk)]
        simp only
        clear ih e1
        induction m with
        | nil => rfl
        | cons b m ih2 =>
          rw [List.map_cons, List.find?_cons, List.find?_cons]
          by_cases hb : b.1 = k
          · rw [if_pos hb, decF hk, decF (show ¬ b.1 = x by rw [hb]; exact hk)]; exact ih2
          · rw [if_neg hb]
            by_cases hbx : b.1 = x
            · rw [decT hbx]
            · rw [decF hbx]; exact ih2
    · have e1 : ((a :: m).any fun p => decide (p.1 = k)) = (m.any fun p => decide (p.1 = k)) := by simp [ha]
      rw [e1]
      by_cases hm : (m.any fun p => decide (p.1 = k)) = true
      · rw [if_pos hm] at ih ⊢
        rw [List.map_cons, if_neg ha, List.find?_cons]
        by_cases hx : a.1 = x
        · rw [decT hx]
          have : ¬ x = k := fun e => ha (hx.trans e)
          rw [if_neg this, List.find?_cons, decT hx]
        · rw [decF hx, List.find?_cons, decF hx]; exact ih
      · rw [if_neg hm] at ih ⊢
        rw [List.cons_append, List.find?_cons]
        by_cases hx : a.1 = x
        · rw [decT hx]
          have : ¬ x = k := fun e => ha (hx.trans e)
          rw [if_neg this, List.find?_cons, decT hx]
        · rw [decF hx, List.find?_cons, decF hx]; exact ih

def inM (m : List (Int × Bool)) (k : Int) : Bool := (mGet m k).getD false
def setAll (m : List (Int × Bool)) (ks : List Int) : List (Int × Bool) := ks.foldl (fun m k => mSet m k true) m
theorem inM_set (m : List (Int × Bool)) (k x : Int) : inM (mSet m k true) x = (decide (x = k) || inM m x) := by
  unfold inM
  rw [mGet_mSet]
  by_cases h : x = k <;> simp [h]
theorem inM_nil (x : Int) : inM [] x = false := rfl

def photoL (l : List T_face_Likeness) (k : Int) : Int := (like l k).Photo
def photosL (l : List T_face_Likeness) (ks : List Int) : List Int := ks.map (photoL l)

theorem photoOf_eq {l : List T_face_Likeness} (hg : Good l) {k : Int} (h : l.any (has k) = true) : face_photoOf l k = some (photoL l k) := by
  unfold face_photoOf
  obtain ⟨n, hn, e1, e2, e3⟩ := good_at hg h
  rw [e1, bnd_pure, e2, bnd_pure]; rfl

theorem photosOf_eq {l : List T_face_Likeness} (hg : Good l) (ks : List Int) (hl : ks.length ≤ 17592186044000) (h : ∀ k ∈ ks, l.any (has k) = true) : face_photosOf l ks = some (photosL l ks) := by
  unfold face_photosOf
  have e := fix_list (F := fun next1 s => face_photosOf_l1 l ks next1 s.1 s.2) ks (fun s k => s ++ [photoL l k]) (fun s => some s) (fun k s => s.length = k) (fun next k s hk hs => ?_) (fun next s _ => ?_) [] rfl
  · rw [e]
    have : ∀ (ks s : List Int), ks.foldl (fun s k => s ++ [photoL l k]) s = s ++ photosL l ks := fun ks => by
      induction ks with
      | nil => intro s; simp [photosL]
      | cons k ks ih => intro s; rw [List.foldl_cons, ih]; simp [photosL]
    rw [this]; rfl
  · simp only [face_photosOf_l1]
    rw [decT (by omega), cnd_true, gAt_nat hk, bnd_pure, photoOf_eq hg (h _ (List.getElem_mem hk)), bnd_pure, gApp_ok (by simp; omega), bnd_pure, gI_ok (by omega), bnd_pure]
    exact ⟨rfl, by simp; omega⟩
  · simp only [face_photosOf_l1]
    rw [decF (by omega), cnd_false]

/-- A like that somebody has already, or two of one photo. -/
def twice (l : List T_face_Likeness) (mp : List (Int × Bool)) (ks : List Int) : Prop := (∃ k ∈ ks, inM mp k = true) ∨ ¬ (photosL l ks).Nodup

theorem twice_loop {l : List T_face_Likeness} (hg : Good l) (p : T_face_Person) (x : Int) (next1 : (Int × (List (Int × Bool))) → Option Int) (hl : p.Likes.length ≤ 17592186044000) (hall : ∀ k ∈ p.Likes, l.any (has k) = true) (hr : p.Likes.Pairwise fun x y => x < y) (mp : List (Int × Bool)) :
    (twice l mp p.Likes → R_PeopleFault_j5 l x mp next1 p = some 6) ∧ (¬ twice l mp p.Likes → R_PeopleFault_j5 l x mp next1 p = R_PeopleFault_j2 x next1 (setAll mp p.Likes)) := by
  unfold R_PeopleFault_j5
  have key : ∀ (n k : Nat) (m1 m2 : List (Int × Bool)), k ≤ p.Likes.length → p.Likes.length - k < n → (∀ y, (∀ i (h : i < p.Likes.length), i < k → p.Likes[i] ≠ y) → inM m1 y = inM mp y) →
      ((∃ q ∈ p.Likes.drop k, inM mp q = true) ∨ (∃ q ∈ p.Likes.drop k, inM m2 (photoL l q) = true) ∨ ¬ (photosL l (p.Likes.drop k)).Nodup → fix (fun next6 s => R_PeopleFault_l6 l x next1 p next6 s.1 s.2.1 s.2.2) ((k : Int), m1, m2) = some 6) ∧
      (¬ ((∃ q ∈ p.Likes.drop k, inM mp q = true) ∨ (∃ q ∈ p.Likes.drop k, inM m2 (photoL l q) = true) ∨ ¬ (photosL l (p.Likes.drop k)).Nodup) → fix (fun next6 s => R_PeopleFault_l6 l x next1 p next6 s.1 s.2.1 s.2.2) ((k : Int), m1, m2) = R_PeopleFault_j2 x next1 (setAll m1 (p.Likes.drop k))) := by
    intro n
    induction n with
    | zero => intro k m1 m2 _ h; omega
    | succ n ih =>
      intro k m1 m2 hk hn hm
      rcases Nat.lt_or_ge k p.Likes.length with h | h
      · obtain ⟨i, hi, a1, a2, a3⟩ := good_at hg (hall _ (List.getElem_mem h))
        have hpw := List.pairwise_iff_getElem.1 hr
        have hm1 : inM m1 p.Likes[k] = inM mp p.Likes[k] := hm _ fun i hi hik => by have := hpw i k hi h hik; omega
        have body : ∀ next, R_PeopleFault_l6 l x next1 p next (k : Int) m1 m2 = if inM mp p.Likes[k] = true then some 6 else if inM m2 (photoL l p.Likes[k]) = true then some 6 else next ((k : Int) + 1, mSet m1 p.Likes[k] true, mSet m2 (photoL l p.Likes[k]) true) := fun next => by
          simp only [R_PeopleFault_l6]
          rw [decT (by omega), cnd_true, gAt_nat h, bnd_pure, a3, bnd_pure, a2, bnd_pure]
          have u1 : (mGet m1 p.Likes[k]).getD false = inM mp p.Likes[k] := hm1
          have u2 : (mGet m2 (like l p.Likes[k]).Photo).getD false = inM m2 (photoL l p.Likes[k]) := rfl
          rw [u1, u2]
          have u3 : ∀ (b : Bool) (x y : Option Int), cnd b x y = if b = true then x else y := fun b _ _ => by cases b <;> rfl
          rw [u3, u3, gI_ok (by omega), bnd_pure]
          rfl
        rw [List.drop_eq_getElem_cons h]
        by_cases c1 : inM mp p.Likes[k] = true
        · refine ⟨fun _ => fix_done fun next => by rw [body, if_pos c1], fun hno => absurd (Or.inl ⟨_, List.mem_cons_self, c1⟩) hno⟩
        · by_cases c2 : inM m2 (photoL l p.Likes[k]) = true
          · refine ⟨fun _ => fix_done fun next => by rw [body, if_neg c1, if_pos c2], fun hno => absurd (Or.inr (Or.inl ⟨_, List.mem_cons_self, c2⟩)) hno⟩
          · have := ih (k + 1) (mSet m1 p.Likes[k] true) (mSet m2 (photoL l p.Likes[k]) true) h (by omega) (fun y hy => by
              rw [inM_set, decF (fun e => hy k h (by omega) e.symm), Bool.false_or]
              exact hm y fun i hi hik => hy i hi (by omega))
            rw [fix_goto ((k : Int) + 1, mSet m1 p.Likes[k] true, mSet m2 (photoL l p.Likes[k]) true) (fun next => by rw [body, if_neg c1, if_neg c2])]
            have eq : ((∃ q ∈ p.Likes[k] :: p.Likes.drop (k + 1), inM mp q = true) ∨ (∃ q ∈ p.Likes[k] :: p.Likes.drop (k + 1), inM m2 (photoL l q) = true) ∨ ¬ (photosL l (p.Likes[k] :: p.Likes.drop (k + 1))).Nodup) ↔
                ((∃ q ∈ p.Likes.drop (k + 1), inM mp q = true) ∨ (∃ q ∈ p.Likes.drop (k + 1), inM (mSet m2 (photoL l p.Likes[k]) true) (photoL l q) = true) ∨ ¬ (photosL l (p.Likes.drop (k + 1))).Nodup) := by
              have hnd : (photosL l (p.Likes[k] :: p.Likes.drop (k + 1))).Nodup ↔ (∀ q ∈ p.Likes.drop (k + 1), photoL l q ≠ photoL l p.Likes[k]) ∧ (photosL l (p.Likes.drop (k + 1))).Nodup := by
                unfold photosL
                rw [List.map_cons, List.nodup_cons]
                refine and_congr ⟨fun h q hq e => h (List.mem_map.2 ⟨q, hq, e⟩), fun h hm => ?_⟩ Iff.rfl
                obtain ⟨q, hq, e⟩ := List.mem_map.1 hm
                exact h q hq e
              constructor
              · rintro (⟨q, hq, e⟩ | ⟨q, hq, e⟩ | e)
                · rcases List.mem_cons.1 hq with rfl | hq
                  · exact absurd e c1
                  · exact .inl ⟨q, hq, e⟩
                · rcases List.mem_cons.1 hq with rfl | hq
                  · exact absurd e c2
                  · exact .inr (.inl ⟨q, hq, by rw [inM_set, e, Bool.or_true]⟩)
                · rw [hnd] at e
                  rcases Classical.em (photosL l (p.Likes.drop (k + 1))).Nodup with e2 | e2
                  · have : ∃ q ∈ p.Likes.drop (k + 1), photoL l q = photoL l p.Likes[k] := Classical.byContradiction fun hno => e ⟨fun q hq he => hno ⟨q, hq, he⟩, e2⟩
                    obtain ⟨q, hq, e⟩ := this
                    exact .inr (.inl ⟨q, hq, by rw [inM_set, decT e, Bool.true_or]⟩)
                  · exact .inr (.inr e2)
              · rintro (⟨q, hq, e⟩ | ⟨q, hq, e⟩ | e)
                · exact .inl ⟨q, List.mem_cons_of_mem _ hq, e⟩
                · rw [inM_set, Bool.or_eq_true] at e
                  rcases e with e | e
                  · exact .inr (.inr fun hh => (hnd.1 hh).1 q hq (by simpa using e))
                  · exact .inr (.inl ⟨q, List.mem_cons_of_mem _ hq, e⟩)
                · exact .inr (.inr fun hh => e (hnd.1 hh).2)
            rw [eq]
            exact this
      · have : k = p.Likes.length := by omega
        subst this
        rw [List.drop_length]
        refine ⟨fun h => ?_, fun _ => ?_⟩
        · rcases h with ⟨q, hq, _⟩ | ⟨q, hq, _⟩ | h
          · cases hq
          · cases hq
          · exact absurd List.Pairwise.nil h
        · refine fix_done fun next => ?_
          simp only [R_PeopleFault_l6]
          rw [decF (by omega), cnd_false]; rfl
  have := key (p.Likes.length + 1) 0 mp [] (Nat.zero_le _) (by omega) (fun y _ => rfl)
  rw [List.drop_zero] at this
  have eq : ((∃ q ∈ p.Likes, inM mp q = true) ∨ (∃ q ∈ p.Likes, inM [] (photoL l q) = true) ∨ ¬ (photosL l p.Likes).Nodup) ↔ twice l mp p.Likes := by
    unfold twice
    refine or_congr Iff.rfl ⟨fun h => ?_, .inr⟩
    rcases h with ⟨q, _, h⟩ | h
    · rw [inM_nil] at h; cases h
    · exact h
  rw [eq] at this
  exact this

theorem check_twice {l : List T_face_Likeness} (hg : Good l) (p : T_face_Person) (hp : PSz p) (x : Int) (next1 : (Int × (List (Int × Bool))) → Option Int) (mp : List (Int × Bool)) :
    (personE l p ≠ 0 → face_CheckPeople_j3 l x mp next1 p = some (personE l p)) ∧
    (personE l p = 0 → (twice l mp p.Likes → face_CheckPeople_j3 l x mp next1 p = some 6) ∧ (¬ twice l mp p.Likes → face_CheckPeople_j3 l x mp next1 p = bnd (gI (x + 1)) fun t77 => next1 (t77, setAll mp p.Likes))) := by
  unfold face_CheckPeople_j3
  rw [checkPerson_eq hg p hp, bnd_pure]
  refine ⟨fun h => by rw [decT h, cnd_true], fun h => ?_⟩
  have hids : IdsOk l p.Likes := by
    refine ids_of ?_
    unfold personE listE at h
    by_cases h1 : idsE l p.Likes = 0
    · exact h1
    · rw [if_pos h1] at h
      split at h
      · cases h
      · exact h
  rw [decF (by simpa using h), cnd_false, photosOf_eq hg _ hp.1 hids.all, bnd_pure, containsFunc_eq p.Likes (face_CheckPeople_1 mp) (inM mp) (by have := hp.1; omega) (fun _ _ => rfl), bnd_pure]
  obtain ⟨w, hw, hlt⟩ := with_eq (photosL l p.Likes) (by unfold photosL; rw [List.length_map]; have := hp.1; omega)
  have hany : (p.Likes.any (inM mp) = true) ↔ ∃ k ∈ p.Likes, inM mp k = true := List.any_eq_true
  constructor
  · rintro (h1 | h1)
    · rw [hany.2 h1, cnd_true]
    · cases p.Likes.any (inM mp) with
      | true => rfl
      | false => rw [cnd_false, hw, bnd_pure, decT (by have := hlt.2 h1; omega), cnd_true]
  · intro hno
    have h1 : p.Likes.any (inM mp) = false := by
      cases hc : p.Likes.any (inM mp) with
      | false => rfl
      | true => exact absurd (.inl (hany.1 hc)) hno
    have h2 : ¬ w.length < (photosL l p.Likes).length := fun h => hno (.inr (hlt.1 h))
    rw [h1, cnd_false, hw, bnd_pure, decF (by omega), cnd_false]
    have e := fix_list (F := fun next4 s => face_CheckPeople_l4 x next1 p (photosL l p.Likes) w next4 s.1 s.2) p.Likes (fun m k => mSet m k true) (fun m => bnd (gI (x + 1)) fun t77 => next1 (t77, m)) (fun _ _ => True) (fun next k s hk _ => ?_) (fun next s _ => ?_) mp trivial
    · exact e
    · simp only [face_CheckPeople_l4]
      rw [decT (by omega), cnd_true, gAt_nat hk, bnd_pure, gI_ok (by have := hp.1; omega), bnd_pure]
      exact ⟨rfl, trivial⟩
    · simp only [face_CheckPeople_l4]
      rw [decF (by omega), cnd_false]; rfl

/-- Right people. -/
structure Folk (l : List T_face_Likeness) (ps : List T_face_Person) : Prop where
  len : ps.length ≤ 100
  ids : ∀ p ∈ ps, IdsOk l p.Likes ∧ IdsOk l p.Nots
  rise : ps.Pairwise fun p q => p.Id < q.Id

theorem personE_ok {l : List T_face_Likeness} {p : T_face_Person} (h : personE l p = 0) : IdsOk l p.Likes ∧ IdsOk l p.Nots := by
  unfold personE at h
  split at h
  · cases h
  unfold listE at h
  by_cases h1 : idsE l p.Likes = 0
  · by_cases h2 : idsE l p.Nots = 0
    · exact ⟨ids_of h1, ids_of h2⟩
    · rw [if_neg (by simpa using h1), if_pos h2] at h; exact absurd h h2
  · rw [if_pos h1] at h; exact absurd h h1

theorem people_eq {l : List T_face_Likeness} (hg : Good l) (ps : List T_face_Person) (hsz : ∀ p ∈ ps, PSz p) (hn : ps.length ≤ 9223372036854775000) :
    ∃ e, (e = 0 → Folk l ps) ∧ R_PeopleFault l ps = some e ∧ (cnd (decide (100 < (ps.length : Int))) (some 4) (fix (fun next1 s => face_CheckPeople_l1 l ps next1 s.1 s.2) (0, ([] : (List (Int × Bool))))) : Option Int) = some e := by
  unfold R_PeopleFault
  by_cases hl : 100 < ps.length
  · rw [decT (by omega)]; exact ⟨4, fun h => absurd h (by decide), rfl, rfl⟩
  rw [decF (by omega), cnd_false, cnd_false]
  have main := fix_sim (F := fun next1 s => R_PeopleFault_l1 l ps next1 s.1 s.2) (G := fun next1 s => face_CheckPeople_l1 l ps next1 s.1 s.2)
    (fun a b => a = b ∧ ∃ k : Nat, a.1 = k ∧ k ≤ ps.length ∧ (∀ i (h : i < ps.length), i < k → IdsOk l ps[i].Likes ∧ IdsOk l ps[i].Nots) ∧ (∀ i (h : i + 1 < ps.length), i + 1 < k → ps[i].Id < ps[i + 1].Id)) (fun a => ps.length - a.1.toNat) (fun e => e = 0 → Folk l ps)
    (by
      rintro ⟨_, mp⟩ _ ⟨rfl, k, rfl, hk, hI, hR⟩
      rcases Nat.lt_or_ge k ps.length with h | h
      · generalize hp : ps[k] = p
        have hpm : p ∈ ps := hp ▸ List.getElem_mem h
        have hz := hsz p hpm
        -- the order
        have ord : (1 ≤ p.Id ∧ p.Id ≤ 1000000) → (0 < k ∧ ∃ h' : k - 1 < ps.length, p.Id ≤ ps[k - 1].Id) ∨ ((k = 0 ∨ ∃ h' : k - 1 < ps.length, ps[k - 1].Id < p.Id)) := fun _ => by
          rcases Nat.eq_zero_or_pos k with h0 | h0
          · exact .inr (.inl h0)
          · rcases Int.lt_or_le ps[k - 1].Id p.Id with h1 | h1
            · exact .inr (.inr ⟨by omega, h1⟩)
            · exact .inl ⟨h0, by omega, h1⟩
        by_cases hid : 1 ≤ p.Id ∧ p.Id ≤ 1000000
        · rcases ord hid with ⟨h0, h', h1⟩ | hgood
          · refine .inl ⟨5, fun h => absurd h (by decide), fix_done fun next => ?_, fix_done fun next => ?_⟩
            · simp only [R_PeopleFault_l1]
              rw [decT (by omega), cnd_true, gAt_nat h, hp, bnd_pure, idOk_eq, bnd_pure, decT hid, Bool.not_true, cnd_false, decT (by omega), cnd_true, gI_ok (by omega), bnd_pure, show (k : Int) - 1 = ((k - 1 : Nat) : Int) by omega, gAt_nat h', bnd_pure, decT h1, cnd_true]
            · simp only [face_CheckPeople_l1]
              rw [decT (by omega), cnd_true, gAt_nat h, hp, bnd_pure, outside_eq, bnd_pure, decF (by omega), cnd_false, decT (by omega), cnd_true, gI_ok (by omega), bnd_pure, show (k : Int) - 1 = ((k - 1 : Nat) : Int) by omega, gAt_nat h', bnd_pure, decT h1, cnd_true]
          · have eR : ∀ next, R_PeopleFault_l1 l ps next (k : Int) mp = bnd (R_TitleOk p.Name) fun t51_2 => cnd (!t51_2) (some 3) (R_PeopleFault_j3 l (k : Int) mp next p) := fun next => by
              simp only [R_PeopleFault_l1]
              rw [decT (by omega), cnd_true, gAt_nat h, hp, bnd_pure, idOk_eq, bnd_pure, decT hid, Bool.not_true, cnd_false]
              rcases hgood with h0 | ⟨h', h1⟩
              · rw [decF (by omega), cnd_false]
              · by_cases h0 : 0 < k
                · rw [decT (by omega), cnd_true, gI_ok (by omega), bnd_pure, show (k : Int) - 1 = ((k - 1 : Nat) : Int) by omega, gAt_nat h', bnd_pure, decF (by omega), cnd_false]
                · rw [decF (by omega), cnd_false]
            have eC : ∀ next, face_CheckPeople_l1 l ps next (k : Int) mp = face_CheckPeople_j3 l (k : Int) mp next p := fun next => by
              simp only [face_CheckPeople_l1]
              rw [decT (by omega), cnd_true, gAt_nat h, hp, bnd_pure, outside_eq, bnd_pure, decF (by omega), cnd_false]
              rcases hgood with h0 | ⟨h', h1⟩
              · rw [decF (by omega), cnd_false]
              · by_cases h0 : 0 < k
                · rw [decT (by omega), cnd_true, gI_ok (by omega), bnd_pure, show (k : Int) - 1 = ((k - 1 : Nat) : Int) by omega, gAt_nat h', bnd_pure, decF (by omega), cnd_false]
                · rw [decF (by omega), cnd_false]
            have eR2 : ∀ next, R_PeopleFault_l1 l ps next (k : Int) mp = if personE l p = 0 then R_PeopleFault_j5 l (k : Int) mp next p else some (personE l p) := fun next => by
              rw [eR, TitleOk_eq, bnd_pure, fault_person hg p hz]
              unfold personE
              cases titleB p.Name <;> rfl
            by_cases hpe : personE l p = 0
            · have hok := personE_ok hpe
              by_cases ht : twice l mp p.Likes
              · exact .inl ⟨6, fun h => absurd h (by decide), fix_done fun next => by show R_PeopleFault_l1 l ps next (k : Int) mp = _; rw [eR2, if_pos hpe]; exact (twice_loop hg p _ next hz.1 hok.1.all hok.1.rise mp).1 ht, fix_done fun next => by show face_CheckPeople_l1 l ps next (k : Int) mp = _; rw [eC]; exact ((check_twice hg p hz _ next mp).2 hpe).1 ht⟩
              · refine .inr ⟨((k : Int) + 1, setAll mp p.Likes), ((k : Int) + 1, setAll mp p.Likes), ⟨rfl, k + 1, by simp, h, fun i hi hik => ?_, fun i hi hik => ?_⟩, by simp only; omega, fix_goto _ fun next => ?_, fix_goto _ fun next => ?_⟩
                · rcases Nat.lt_or_ge i k with h3 | h3
                  · exact hI i hi h3
                  · have : i = k := by omega
                    subst this; rw [hp]; exact hok
                · rcases Nat.lt_or_ge (i + 1) k with h3 | h3
                  · exact hR i hi h3
                  · have : k = i + 1 := by omega
                    subst this
                    rcases hgood with h4 | ⟨h', h4⟩
                    · omega
                    · rw [← hp] at h4; exact h4
                · show R_PeopleFault_l1 l ps next (k : Int) mp = _
                  rw [eR2, if_pos hpe, (twice_loop hg p _ next hz.1 hok.1.all hok.1.rise mp).2 ht]
                  simp only [R_PeopleFault_j2]
                  rw [gI_ok (by omega), bnd_pure]
                · show face_CheckPeople_l1 l ps next (k : Int) mp = _
                  rw [eC, ((check_twice hg p hz _ next mp).2 hpe).2 ht, gI_ok (by omega), bnd_pure]
            · exact .inl ⟨personE l p, fun h => absurd h hpe, fix_done fun next => by show R_PeopleFault_l1 l ps next (k : Int) mp = _; rw [eR2, if_neg hpe], fix_done fun next => by show face_CheckPeople_l1 l ps next (k : Int) mp = _; rw [eC]; exact (check_twice hg p hz _ next mp).1 hpe⟩
        · refine .inl ⟨2, fun h => absurd h (by decide), fix_done fun next => ?_, fix_done fun next => ?_⟩
          · simp only [R_PeopleFault_l1]
            rw [decT (by omega), cnd_true, gAt_nat h, hp, bnd_pure, idOk_eq, bnd_pure, decF hid, Bool.not_false, cnd_true]
          · simp only [face_CheckPeople_l1]
            rw [decT (by omega), cnd_true, gAt_nat h, hp, bnd_pure, outside_eq, bnd_pure, decT (by omega), cnd_true]
      · have : k = ps.length := by omega
        subst this
        refine .inl ⟨0, fun _ => ⟨by omega, fun p hp => ?_, List.pairwise_iff_getElem.2 ?_⟩, fix_done fun next => ?_, fix_done fun next => ?_⟩
        · obtain ⟨j, hj, rfl⟩ := List.getElem_of_mem hp
          exact hI j hj hj
        · have step : ∀ d i (hi : i < ps.length) (hd : i + d + 1 < ps.length), ps[i].Id < ps[i + d + 1].Id := by
            intro d
            induction d with
            | zero => intro i hi hd; exact hR i hd hd
            | succ d ih =>
              intro i hi hd
              have h1 := ih i hi (by omega)
              have h2 : ps[i + d + 1].Id < ps[i + (d + 1) + 1].Id := hR (i + d + 1) hd hd
              omega
          intro i j hi hj hij
          have := step (j - i - 1) i hi (by omega)
          simpa [show i + (j - i - 1) + 1 = j by omega] using this
        · simp only [R_PeopleFault_l1]
          rw [decF (by omega), cnd_false]
        · simp only [face_CheckPeople_l1]
          rw [decF (by omega), cnd_false])
    (0, []) (0, []) ⟨rfl, 0, rfl, Nat.zero_le _, fun i _ h => by omega, fun i _ h => by omega⟩
  obtain ⟨e, h1, h2, h3⟩ := main
  exact ⟨e, h1, h2, h3⟩
end Go.M

/- FacePeople in plain Lean, last part: matches, and the law. Conditions: few elements. -/
namespace Go.M
open Go.Md Go.Pl
set_option linter.unusedVariables false

def cI (a b : Int) : Int := if a < b then -1 else if b < a then 1 else 0
theorem cI_lt (a b : Int) : cI a b < 0 ↔ a < b := by unfold cI; repeat' split <;> omega
theorem cI_gt (a b : Int) : 0 < cI a b ↔ b < a := by unfold cI; repeat' split <;> omega
theorem cI_0 (a b : Int) : cI a b = 0 ↔ a = b := by unfold cI; repeat' split <;> omega

theorem compare_eq (a b : Int) : cmp_Compare_int a b = some (cI a b) := by
  unfold cmp_Compare_int cmp_isNaN_int cI
  simp only [bnd_pure, ne_eq, not_true_eq_false, decide_false, cnd_false]
  by_cases h1 : a < b
  · simp [h1]
  · by_cases h2 : b < a <;> simp [h1, h2]

theorem or_eq (p s : Int) : cmp_Or_int [p, s] = some (if p = 0 then s else p) := by
  unfold cmp_Or_int
  by_cases h : p = 0
  · subst h
    rw [fix_goto (b := (1 : Int)) (fun next => by simp [cmp_Or_int_l1, gAt, gI])]
    by_cases h2 : s = 0
    · subst h2
      rw [fix_goto (b := (2 : Int)) (fun next => by simp [cmp_Or_int_l1, gAt, gI])]
      rw [fix_done (o := some 0) (fun next => by simp [cmp_Or_int_l1])]
      rfl
    · rw [fix_done (o := some s) (fun next => by simp [cmp_Or_int_l1, gAt, h2])]
      simp
  · rw [fix_done (o := some p) (fun next => by simp [cmp_Or_int_l1, gAt, h])]
    simp [h]

def cM (x y : T_face_Match) : Int := if cI x.Far y.Far = 0 then cI x.Person y.Person else cI x.Far y.Far
theorem cmp1_eq (x y : T_face_Match) : face_matches_1 x y = some (cM x y) := by
  unfold face_matches_1
  rw [compare_eq, bnd_pure, compare_eq, bnd_pure, or_eq, bnd_pure]; rfl
theorem cM_le (x y : T_face_Match) : cM x y ≤ 0 ↔ x.Far < y.Far ∨ x.Far = y.Far ∧ x.Person ≤ y.Person := by
  unfold cM
  have h1 := cI_lt x.Far y.Far
  have h2 := cI_gt x.Far y.Far
  have h3 := cI_0 x.Far y.Far
  have h4 := cI_lt x.Person y.Person
  have h5 := cI_gt x.Person y.Person
  split <;> omega
theorem cM_0 (x y : T_face_Match) : cM x y = 0 ↔ x.Far = y.Far ∧ x.Person = y.Person := by
  unfold cM
  have h3 := cI_0 x.Far y.Far
  have h4 := cI_0 x.Person y.Person
  split <;> omega
theorem cM_lt (x y : T_face_Match) : cM x y < 0 ↔ x.Far < y.Far ∨ x.Far = y.Far ∧ x.Person < y.Person := by
  have h1 := cM_le x y
  have h2 := cM_0 x y
  omega

theorem cmpOk : CmpOk face_matches_1 where
  tot x y := ⟨_, cmp1_eq x y⟩
  flip x y := by
    rw [cmp1_eq, cmp1_eq]
    have h1 := cM_lt x y
    have h2 := cM_le y x
    simp only [Option.getD_some]
    omega
  trans x y z := by
    rw [cmp1_eq, cmp1_eq, cmp1_eq]
    simp only [Option.getD_some]
    rw [cM_le, cM_le, cM_le]
    omega
  anti x y := by
    rw [cmp1_eq]
    simp only [Option.getD_some]
    rw [cM_0]
    rintro ⟨h1, h2⟩
    cases x; cases y
    simp at h1 h2
    subst h1 h2; rfl

theorem cf_far : Go.StP.Cf (fun m : T_face_Match => m.Far) R_matches_1 := fun x y => ⟨cI x.Far y.Far, by unfold R_matches_1; rw [compare_eq, bnd_pure], cI_lt _ _⟩

/-- Both sorts are one where the people rise. -/
theorem sorts (out : List T_face_Match) (hl : out.length ≤ 100) (hs : out.Pairwise fun x y => x.Person < y.Person) : ∃ r, gSortF out face_matches_1 = some r ∧ slices_SortStableFunc_face_Match out R_matches_1 = some r ∧ r.length = out.length := by
  obtain ⟨r, h1, h2, h3⟩ := Go.StP.stable_ok (key := fun m : T_face_Match => m.Far) (tie := fun m : T_face_Match => m.Person) cf_far out (hs.imp fun {x y} h => (fun _ => h : Go.StP.stb (fun m : T_face_Match => m.Far) (fun m : T_face_Match => m.Person) x y)) (by omega)
  refine ⟨r, ?_, h1, h2.length_eq⟩
  unfold gSortF
  rw [if_pos ⟨by omega, cmpOk⟩, sortF_is cmpOk h2]
  refine h3.imp fun {x y} h => ?_
  unfold leC
  rw [cmp1_eq, Option.getD_some, decide_eq_true_iff, cM_le]
  unfold Go.StP.lt3 at h
  rcases h with h | ⟨h, h'⟩
  · exact .inl h
  · have h2 : x.Person < y.Person := h'
    exact .inr ⟨h, by omega⟩

/-! ### photos, owners -/
theorem hasPhoto_eq {l : List T_face_Likeness} (hg : Good l) (p : T_face_Person) (id : Int) (hp : p.Likes.length ≤ 17592186044000) (hid : l.any (has id) = true) (hall : ∀ k ∈ p.Likes, l.any (has k) = true) :
    face_hasPhoto l p id = some (decide (photoL l id ∈ photosL l p.Likes)) := by
  unfold face_hasPhoto
  rw [photosOf_eq hg _ hp hall, bnd_pure, photoOf_eq hg hid, bnd_pure, contains_eq _ _ (by unfold photosL; rw [List.length_map]; omega), bnd_pure]

theorem inPhoto_eq {l : List T_face_Likeness} (hg : Good l) (p : T_face_Person) (ph : Int) (hp : p.Likes.length ≤ 17592186044000) (hall : ∀ k ∈ p.Likes, l.any (has k) = true) :
    R_InPhoto l p ph = some (decide (ph ∈ photosL l p.Likes)) := by
  unfold R_InPhoto
  rw [containsFunc_eq p.Likes (R_InPhoto_1 l ph) (fun k => decide (photoL l k = ph)) (by omega) (fun k hk => by
    unfold R_InPhoto_1
    obtain ⟨n, hn, a1, a2, a3⟩ := good_at hg (hall k hk)
    rw [a3, bnd_pure, a2, bnd_pure]; rfl), bnd_pure]
  congr 1
  rw [Bool.eq_iff_iff, List.any_eq_true, decide_eq_true_iff]
  unfold photosL
  rw [List.mem_map]
  constructor
  · rintro ⟨k, hk, h⟩; exact ⟨k, hk, by simpa using h⟩
  · rintro ⟨k, hk, h⟩; exact ⟨k, hk, by simpa using h⟩

theorem owner_eq {l : List T_face_Likeness} {ps : List T_face_Person} (hf : Folk l ps) (hsz : ∀ p ∈ ps, PSz p) (id : Int) : ∃ n, face_owner ps id = some n ∧ R_OwnerOf ps id = some n := by
  have := hf.len
  refine ⟨idx (fun p => decide (id ∈ p.Likes)) ps, ?_, ?_⟩
  · unfold face_owner
    rw [indexPerson_eq ps (face_owner_1 id) (fun p => decide (id ∈ p.Likes)) (by omega) (fun p hp => by
      unfold face_owner_1
      rw [bcontains_eq _ _ (hf.ids p hp).1.rise (by have := (hsz p hp).1; omega), bnd_pure]), bnd_pure]
  · unfold R_OwnerOf
    rw [indexPerson_eq ps (R_OwnerOf_1 id) (fun p => decide (id ∈ p.Likes)) (by omega) (fun p hp => by
      unfold R_OwnerOf_1
      rw [contains_eq _ _ (by have := (hsz p hp).1; omega), bnd_pure]), bnd_pure]

/-! ### matches -/
def could (l : List T_face_Likeness) (id : Int) (p : T_face_Person) : Bool := decide (0 < p.Likes.length) && (!decide (id ∈ p.Nots) && !decide (photoL l id ∈ photosL l p.Likes))
noncomputable def mk (l : List T_face_Likeness) (id : Int) (p : T_face_Person) : T_face_Match := ⟨p.Id, (face_score l p id).getD 0⟩
noncomputable def addM (l : List T_face_Likeness) (id : Int) (s : List T_face_Match) (p : T_face_Person) : List T_face_Match := if could l id p = true then s ++ [mk l id p] else s

theorem addM_all (l : List T_face_Likeness) (id : Int) : ∀ (ps : List T_face_Person) (s : List T_face_Match), ps.foldl (addM l id) s = s ++ (ps.filter (could l id)).map (mk l id)
  | [], s => by simp
  | p :: ps, s => by
    rw [List.foldl_cons, addM_all l id ps]
    unfold addM
    by_cases h : could l id p = true
    · rw [if_pos h, List.filter_cons, if_pos h]; simp
    · rw [if_neg h, List.filter_cons, if_neg h]

theorem matches_eq {l : List T_face_Likeness} (hg : Good l) {ps : List T_face_Person} (hf : Folk l ps) (hsz : ∀ p ∈ ps, PSz p) (id : Int) (hid : l.any (has id) = true) :
    ∃ r, face_matches l ps id = some r ∧ R_matches l ps id = some r := by
  have h100 := hf.len
  obtain ⟨out, hout⟩ : ∃ out, out = ps.foldl (addM l id) [] := ⟨_, rfl⟩
  have e1 := addM_all l id ps []
  rw [← hout, List.nil_append] at e1
  have hl : out.length ≤ 100 := by rw [e1, List.length_map]; exact Nat.le_trans (List.length_filter_le _ _) hf.len
  have hpw : out.Pairwise fun x y => x.Person < y.Person := by
    rw [e1, List.pairwise_map]
    exact List.Pairwise.sublist List.filter_sublist hf.rise
  obtain ⟨r, h1, h2, h3⟩ := sorts out hl hpw
  obtain ⟨n, hn, b1, b2, b3⟩ := good_at hg hid
  refine ⟨r, ?_, ?_⟩
  · unfold face_matches
    have e := fix_list (F := fun next2 s => face_matches_l2 l ps id next2 s.1 s.2) ps (addM l id) face_matches_j1 (fun k s => s.length ≤ k) (fun next k s hk hs => ?_) (fun next s _ => ?_) [] (Nat.zero_le _)
    · rw [e, ← hout]
      unfold face_matches_j1
      rw [h1, bnd_pure]
    · simp only [face_matches_l2, face_matches_j3]
      have hp := hf.ids _ (List.getElem_mem hk)
      have hz := hsz _ (List.getElem_mem hk)
      generalize hpk : ps[k] = p at *
      obtain ⟨v, hv, _⟩ := scores hg p id hz.1 hid hp.1.all
      have g1 : gI ((k : Int) + 1) = some ((k : Int) + 1) := gI_ok (by omega)
      have g2 : gApp 16 s [(⟨p.Id, v⟩ : T_face_Match)] = some (s ++ [⟨p.Id, v⟩]) := gApp_ok (by simp; omega)
      rw [decT (by omega), cnd_true, gAt_nat hk, bnd_pure, hpk, bcontains_eq _ _ hp.2.rise (by have := hz.2; omega), bnd_pure, hasPhoto_eq hg p id hz.1 hid hp.1.all, bnd_pure, hv, bnd_pure, g2, bnd_pure, g1, bnd_pure, bnd_pure]
      unfold addM could mk
      rw [hv]
      by_cases c1 : 0 < p.Likes.length
      · rw [decT (by omega), decT c1, cnd_true, Bool.true_and]
        by_cases c2 : id ∈ p.Nots
        · rw [decT c2]
          exact ⟨rfl, by simp; omega⟩
        · rw [decF c2]
          by_cases c3 : photoL l id ∈ photosL l p.Likes
          · rw [decT c3]
            exact ⟨rfl, by simp; omega⟩
          · rw [decF c3]
            exact ⟨rfl, by simp; omega⟩
      · rw [decF (by omega), decF c1, cnd_false, Bool.false_and]
        exact ⟨rfl, by simp; omega⟩
    · simp only [face_matches_l2]
      rw [decF (by omega), cnd_false]
  · unfold R_matches
    have e := fix_list (F := fun next2 s => R_matches_l2 l ps id next2 s.1 s.2) ps (addM l id) R_matches_j1 (fun k s => s.length ≤ k) (fun next k s hk hs => ?_) (fun next s _ => ?_) [] (Nat.zero_le _)
    · rw [e, ← hout]
      unfold R_matches_j1
      rw [h2, bnd_pure]
    · simp only [R_matches_l2, R_matches_j3]
      have hp := hf.ids _ (List.getElem_mem hk)
      have hz := hsz _ (List.getElem_mem hk)
      generalize hpk : ps[k] = p at *
      obtain ⟨v, hv, hv'⟩ := scores hg p id hz.1 hid hp.1.all
      have g1 : gI ((k : Int) + 1) = some ((k : Int) + 1) := gI_ok (by omega)
      have g2 : gApp 16 s [(⟨p.Id, v⟩ : T_face_Match)] = some (s ++ [⟨p.Id, v⟩]) := gApp_ok (by simp; omega)
      rw [decT (by omega), cnd_true, gAt_nat hk, bnd_pure, hpk, contains_eq _ _ (by have := hz.2; omega), bnd_pure, b3, bnd_pure, b2, bnd_pure, inPhoto_eq hg p _ hz.1 hp.1.all, bnd_pure, hv', bnd_pure, g2, bnd_pure, g1, bnd_pure, bnd_pure]
      unfold addM could mk
      rw [hv]
      by_cases c1 : 0 < p.Likes.length
      · rw [decT (by omega), decT c1, cnd_true, Bool.true_and]
        by_cases c2 : id ∈ p.Nots
        · rw [decT c2]
          exact ⟨rfl, by simp; omega⟩
        · rw [decF c2]
          by_cases c3 : photoL l id ∈ photosL l p.Likes
          · rw [decT c3, decT (show (like l id).Photo ∈ photosL l p.Likes from c3)]
            exact ⟨rfl, by simp; omega⟩
          · rw [decF c3, decF (show ¬ (like l id).Photo ∈ photosL l p.Likes from c3)]
            exact ⟨rfl, by simp; omega⟩
      · rw [decF (by omega), decF c1, cnd_false, Bool.false_and]
        exact ⟨rfl, by simp; omega⟩
    · simp only [R_matches_l2]
      rw [decF (by omega), cnd_false]

/-! ### the law -/
theorem eq_match (x : T_face_Match) : eq_face_Match x x = true := by simp [eq_face_Match]
theorem equal_self (l : List T_face_Match) (hl : l.length ≤ 9223372036854775000) : slices_Equal_face_Match l l = some true := by
  unfold slices_Equal_face_Match
  rw [decF (by simp), cnd_false]
  have h := up (F := fun next1 s => slices_Equal_face_Match_l1 l l next1 s) l.length (fun _ => some true) (fun next k hk ih => by
    simp only [slices_Equal_face_Match_l1]
    rcases Nat.lt_or_ge k l.length with h | h
    · rw [decT (by omega), cnd_true, gAt_nat h, bnd_pure, bnd_pure, eq_match, Bool.not_true, cnd_false, gI_ok (by omega), bnd_pure, ih h]
    · rw [decF (by omega), cnd_false])
  exact h

theorem listed_eq (v : List T_face_Match) (e : Int) (w : List T_face_Match) (f : Int) (hv : v = if f = 0 then w else []) (he : e = f) (hl : v.length ≤ 9223372036854775000) : Law_listed_face_Match v e w f = some true := by
  unfold Law_listed_face_Match Law_listed_face_Match_j1
  subst he
  by_cases h : e = 0
  · rw [if_pos h] at hv
    subst hv
    rw [decF (by simpa using h), cnd_false, equal_self _ hl, bnd_pure, cnd_true, decT rfl]
  · rw [if_neg h] at hv
    subst hv
    rw [decT h, cnd_true, equal_self _ hl, bnd_pure, cnd_true, decT rfl]

theorem score_eq {l : List T_face_Likeness} (hg : Good l) (p : T_face_Person) (id : Int) (hz : PSz p) (hc : face_Check l = some 0) :
    face_Score l p id = if l.any (has id) = true ∧ ∀ k ∈ p.Likes, l.any (has k) = true then bnd (face_score l p id) fun t41 => some (t41, 0) else some (0, 7) := by
  unfold face_Score
  have hz1 := hz.1
  rw [hc, bnd_pure, decF (by simp), cnd_false, concat_eq [id] p.Likes (by simp; omega), bnd_pure]
  have h := up (F := fun next2 s => face_Score_l2 l p id ([id] ++ p.Likes) next2 s) ([id] ++ p.Likes).length (fun k => if ∀ q ∈ ([id] ++ p.Likes).drop k, l.any (has q) = true then bnd (face_score l p id) fun t41 => some (t41, 0) else some (0, 7)) (fun next k hk ih => by
    simp only [face_Score_l2, face_Score_j1]
    rcases Nat.lt_or_ge k ([id] ++ p.Likes).length with h | h
    · rw [decT (by omega), cnd_true, gAt_nat h, bnd_pure, List.drop_eq_getElem_cons h]
      cases hany : l.any (has ([id] ++ p.Likes)[k]) with
      | false =>
        obtain ⟨i, e⟩ := good_at_not hg hany
        rw [e, bnd_pure, if_neg (fun hh => by have := hh _ List.mem_cons_self; rw [hany] at this; cases this)]
        rfl
      | true =>
        obtain ⟨n, hn, e, _⟩ := good_at hg hany
        rw [e, bnd_pure]
        have e2 : ∀ (x y : Option (Int × Int)), cnd (!((n : Int), true).2) x y = y := fun _ _ => rfl
        rw [e2, gI_ok (by simp at h; omega), bnd_pure, ih h]
        have : (∀ q ∈ ([id] ++ p.Likes).drop (k + 1), l.any (has q) = true) ↔ ∀ q ∈ ([id] ++ p.Likes)[k] :: ([id] ++ p.Likes).drop (k + 1), l.any (has q) = true := by
          constructor
          · intro h q hq
            rcases List.mem_cons.1 hq with rfl | hq
            · exact hany
            · exact h q hq
          · intro h q hq; exact h q (List.mem_cons_of_mem _ hq)
        simp only [this]
    · have : k = ([id] ++ p.Likes).length := by omega
      subst this
      rw [decF (by omega), cnd_false, List.drop_length, if_pos (by simp)])
  rw [h, List.drop_zero]
  have : (∀ q ∈ [id] ++ p.Likes, l.any (has q) = true) ↔ l.any (has id) = true ∧ ∀ k ∈ p.Likes, l.any (has k) = true := by
    constructor
    · intro h; exact ⟨h id (by simp), fun k hk => h k (by simp [hk])⟩
    · rintro ⟨h1, h2⟩ q hq
      rcases List.mem_append.1 hq with hq | hq
      · simp at hq; subst hq; exact h1
      · exact h2 q hq
  simp only [this]

theorem face_people (l : List T_face_Likeness) (ps : List T_face_Person) (id : Int) (hl : l.length ≤ 9223372036854775000) (hsz : ∀ p ∈ ps, PSz p) (hn : ps.length ≤ 9223372036854775000) : Law_FacePeople l ps id = some true := by
  unfold Law_FacePeople
  rw [likes_eq l (by omega), bnd_pure]
  have hC := check_eq l (by omega)
  generalize hfe : (if 300 < l.length then 4 else firstE (likeF l) l.length 0) = fe at *
  have hgood : fe = 0 → Good l := fun h => by
    by_cases h3 : 300 < l.length
    · rw [if_pos h3] at hfe; subst hfe; cases h
    · rw [if_neg h3] at hfe; exact good_of l (by omega) (hfe.trans h)
  have loop := up (F := fun next4 s => Law_FacePeople_l4 l ps id fe next4 s) ps.length (fun _ => Law_FacePeople_j1 l ps id fe) (fun next k hk ih => by
    simp only [Law_FacePeople_l4]
    rcases Nat.lt_or_ge k ps.length with h | h
    · rw [decT (by omega), cnd_true, gAt_nat h, bnd_pure]
      have hz := hsz _ (List.getElem_mem h)
      generalize ps[k] = p at *
      have told : ∀ v f, Law_FacePeople_j6 (k : Int) next (if f = 0 then v else 0, f) f v = next ((k : Int) + 1) := fun v f => by
        unfold Law_FacePeople_j6
        rw [told_int_eq _ _ _ _ rfl rfl, bnd_pure, Bool.not_true, cnd_false, gI_ok (by omega), bnd_pure]
      by_cases h0 : fe = 0
      · have hg := hgood h0
        have h300 := hg.len
        rw [h0] at hC ⊢
        have hS := score_eq hg p id hz hC
        have hLA := likeAt_eq l id (by omega)
        have hCF : slices_ContainsFunc_int p.Likes (Law_FacePeople_1 l) = some (p.Likes.any fun q => !l.any (has q)) := containsFunc_eq p.Likes (Law_FacePeople_1 l) (fun q => !l.any (has q)) (by have := hz.1; omega) (fun q _ => by
          unfold Law_FacePeople_1
          rw [likeAt_eq l q (by omega), bnd_pure, idx_neg])
        have j5 : ∀ (t30 : Int × Int), Law_FacePeople_j5 l id (k : Int) next p t30 7 = Law_FacePeople_j6 (k : Int) next t30 7 0 := fun t30 => by
          unfold Law_FacePeople_j5
          rw [decF (by decide), cnd_false]
        by_cases c1 : l.any (has id) = true
        · by_cases c2 : ∀ q ∈ p.Likes, l.any (has q) = true
          · have a2 : (p.Likes.any fun q => !l.any (has q)) = false := by
              rw [List.any_eq_false]; intro q hq; rw [c2 q hq]; simp
            obtain ⟨v, hv, hv'⟩ := scores hg p id hz.1 c1 c2
            rw [if_pos ⟨c1, c2⟩, hv, bnd_pure] at hS
            rw [hS, bnd_pure, decT rfl, cnd_true, hLA, bnd_pure, idx_neg, c1, Bool.not_true, cnd_false, hCF, bnd_pure, a2, cnd_false]
            unfold Law_FacePeople_j5
            rw [decT rfl, cnd_true, hv', bnd_pure]
            have := told v 0
            rw [if_pos rfl] at this
            rw [this, ih h, h0]
          · have a2 : (p.Likes.any fun q => !l.any (has q)) = true := by
              rw [List.any_eq_true]
              exact Classical.byContradiction fun hno => c2 fun q hq => by
                cases hc : l.any (has q) with
                | true => rfl
                | false => exact absurd ⟨q, hq, by rw [hc]; rfl⟩ hno
            rw [if_neg (fun h => c2 h.2)] at hS
            rw [hS, bnd_pure, decT rfl, cnd_true, hLA, bnd_pure, idx_neg, c1, Bool.not_true, cnd_false, hCF, bnd_pure, a2, cnd_true, j5]
            have := told 0 7
            rw [if_neg (by decide)] at this
            rw [this, ih h, h0]
        · rw [if_neg (fun h => c1 h.1)] at hS
          rw [hS, bnd_pure, decT rfl, cnd_true, hLA, bnd_pure, idx_neg, (by simpa using c1 : l.any (has id) = false), Bool.not_false, cnd_true, j5]
          have := told 0 7
          rw [if_neg (by decide)] at this
          rw [this, ih h, h0]
      · have hs : face_Score l p id = some (0, fe) := by
          unfold face_Score
          rw [hC, bnd_pure, decT h0, cnd_true]
        rw [hs, bnd_pure, decF h0, cnd_false]
        unfold Law_FacePeople_j5
        rw [decF h0, cnd_false]
        have := told 0 fe
        rw [if_neg h0] at this
        rw [this, ih h]
    · rw [decF (by omega), cnd_false])
  rw [loop]
  unfold Law_FacePeople_j1
  have hCP : face_CheckPeople l ps = if fe = 0 then (cnd (decide (100 < (ps.length : Int))) (some 4) (fix (fun next1 s => face_CheckPeople_l1 l ps next1 s.1 s.2) (0, ([] : (List (Int × Bool)))))) else some fe := by
    unfold face_CheckPeople
    rw [hC, bnd_pure, cnd_if]
    by_cases h : fe = 0 <;> simp [h]
  by_cases h0 : fe = 0
  · have hg := hgood h0
    obtain ⟨e, he1, he2, he3⟩ := people_eq hg ps hsz hn
    rw [if_pos h0, he3] at hCP
    rw [decT h0, cnd_true, he2, bnd_pure]
    unfold Law_FacePeople_j2 face_Suggest Law_FacePeople_j3
    rw [hCP, bnd_pure]
    by_cases h1 : e = 0
    · subst h1
      have hf := he1 rfl
      rw [decF (by simp), cnd_false, decT rfl]
      unfold R_SuggestOf
      rw [likeAt_eq l id (by have := hg.len; omega), bnd_pure, idx_neg]
      cases hany : l.any (has id) with
      | false =>
        obtain ⟨i, e⟩ := good_at_not hg hany
        rw [e, bnd_pure]
        have hL : Law_listed_face_Match [] 7 [] 7 = some true := listed_eq _ _ _ _ rfl rfl (by simp)
        simp only [Bool.not_false, cnd_true, bnd_pure, hL, decide_true]
      | true =>
        obtain ⟨n, hn', a1, a2, a3⟩ := good_at hg hany
        obtain ⟨o, o1, o2⟩ := owner_eq hf hsz id
        rw [a1, bnd_pure, o1, o2, bnd_pure, bnd_pure]
        simp only [Bool.not_true, cnd_false]
        by_cases ho : 0 ≤ o
        · have hL : Law_listed_face_Match [] 11 [] 11 = some true := listed_eq _ _ _ _ rfl rfl (by simp)
          simp only [decT ho, cnd_true, bnd_pure, hL, decide_true]
        · obtain ⟨r, r1, r2⟩ := matches_eq hg hf hsz id hany
          rw [decF ho, cnd_false, cnd_false, r1, r2, bnd_pure, bnd_pure]
          have g1 : gCut r 0 (min 5 (r.length : Int)) = some (r.take (min 5 (r.length : Int)).toNat) := gCut_to (by omega)
          have g2 : gCut r 0 (min (r.length : Int) 5) = some (r.take (min 5 (r.length : Int)).toNat) := by rw [Int.min_comm]; exact g1
          generalize hc : r.take (min 5 (r.length : Int)).toNat = c at g1 g2
          have hcl : c.length ≤ 5 := by rw [← hc, List.length_take]; omega
          have hL : Law_listed_face_Match c 0 c 0 = some true := listed_eq _ _ _ _ rfl rfl (by omega)
          simp only [g1, g2, cnd_true, bnd_pure, hL, decide_true]
    · have hL : Law_listed_face_Match [] e [] e = some true := listed_eq _ _ _ _ (by simp) rfl (by simp)
      simp only [decT h1, decF h1, cnd_true, cnd_false, bnd_pure, hL, decide_true]
  · rw [if_neg h0] at hCP
    rw [decF h0, cnd_false]
    unfold Law_FacePeople_j2 face_Suggest Law_FacePeople_j3
    have hL : Law_listed_face_Match [] fe [] fe = some true := listed_eq _ _ _ _ (by simp) rfl (by simp)
    simp only [hCP, decT h0, decF h0, cnd_true, cnd_false, bnd_pure, hL, decide_true]

theorem facePeopleS (l : List T_face_Likeness) (ps : List T_face_Person) (id : Int) {φ ψ : Prop} {α β γ δ : T_face_Person → Prop} (h1 : (l.length ≤ 9223372036854775807 ∧ l.length * 112 ≤ 140737488351232) ∧ φ)
    (h2 : (ps.length ≤ 9223372036854775807 ∧ ps.length * 72 ≤ 140737488351232) ∧ ∀ a ∈ ps, α a ∧ β a ∧ ((a.Likes.length ≤ 9223372036854775807 ∧ a.Likes.length * 8 ≤ 140737488351232) ∧ γ a) ∧ ((a.Nots.length ≤ 9223372036854775807 ∧ a.Nots.length * 8 ≤ 140737488351232) ∧ δ a)) (_ : ψ) : Law_FacePeople l ps id = some true :=
  face_people l ps id (by omega) (fun p hp => by have := h2.2 p hp; exact ⟨by omega, by omega⟩) (by omega)
end Go.M
