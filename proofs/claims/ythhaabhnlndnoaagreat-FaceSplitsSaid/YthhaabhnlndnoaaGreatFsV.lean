/- Likenesses, in plain Lean. Conditions: none. -/
import Derived.Test.YthhaabhnlndnoaaGreatPl
import Derived.Test.YthhaabhnlndnoaaGreatMFc
namespace Go.M
open Go.Md Go.Pl

def okN (x : Int) : Bool := decide (-127 ≤ x ∧ x ≤ 127)
theorem okN_iff {x : Int} : okN x = true ↔ -127 ≤ x ∧ x ≤ 127 := by simp [okN]
def c12 (v : Nat → Int) (j : Nat) : Int := if okN (v j) = true then 0 else 2
def vecF (v : Nat → Int) : Int := firstE (c12 v) 12 0

theorem outside_eq (a b c : Int) : face_outside a b c = some (decide (a < b ∨ c < a)) := by
  unfold face_outside
  rw [cnd_if]; by_cases h : a < b <;> simp [h]

theorem face_CheckVec_eq (v : Nat → Int) : face_CheckVec v = some (vecF v) := by
  unfold face_CheckVec vecF
  refine scan 12 _ (fun next k hk => ?_) fun next => ?_
  · unfold face_CheckVec_l1 c12
    by_cases h : okN (v k) = true
    · have h' := okN_iff.1 h
      rw [if_pos h]
      simp (disch := omega) only [cnd_if, gI_ok, gIx_nat, bnd_pure, outside_eq, if_pos, if_neg, if_true]
    · have h' : ¬ (-127 ≤ v k ∧ v k ≤ 127) := fun hh => h (okN_iff.2 hh)
      rw [if_neg h]
      simp (disch := omega) only [cnd_if, gI_ok, gIx_nat, bnd_pure, outside_eq, if_pos, if_neg]
  · unfold face_CheckVec_l1
    rfl

theorem vecF_ok {w : Nat → Int} (h : vecF w = 0) (j : Nat) (hj : j < 12) : -127 ≤ w j ∧ w j ≤ 127 := by
  have := firstE_zero h j (by omega) (by omega)
  unfold c12 at this
  by_cases hh : okN (w j) = true
  · exact okN_iff.1 hh
  · rw [if_neg hh] at this; cases this

/-- Why a list of vectors is none. -/
def vecsF (l : List (Nat → Int)) : Int := firstE (fun j => vecF (l.getD j fun _ => 0)) l.length 0

theorem checkVecs_eq (l : List (Nat → Int)) (hl : l.length ≤ 9223372036854775807) : face_checkVecs l = some (vecsF l) := by
  unfold face_checkVecs vecsF
  refine scan l.length _ (fun next k hk => ?_) fun next => ?_
  · unfold face_checkVecs_l1
    simp only [cnd_if, gAt_nat hk, bnd_pure, face_CheckVec_eq]
    rw [if_pos (by omega), gI_ok (by omega), bnd_pure, List.getD_eq_getElem?_getD, List.getElem?_eq_getElem hk, Option.getD_some]
    by_cases h : vecF l[k] = 0 <;> simp [h]
  · unfold face_checkVecs_l1
    rw [cnd_if, if_neg (by omega)]

def likeF (l : List T_face_Likeness) (j : Nat) : Int :=
  if ¬ (1 ≤ (l.getD j default).Id ∧ (l.getD j default).Id ≤ 1000000) ∨ ¬ (1 ≤ (l.getD j default).Photo ∧ (l.getD j default).Photo ≤ 1000000) then 2
  else if 0 < j ∧ (l.getD j default).Id ≤ (l.getD (j - 1) default).Id then 5 else vecF (l.getD j default).Vec

theorem at_D {α : Type} [Inhabited α] {l : List α} {k : Nat} (h : k < l.length) : l.getD k default = l[k] := by
  rw [List.getD_eq_getElem?_getD, List.getElem?_eq_getElem h]; rfl

theorem check_eq (l : List T_face_Likeness) (hl : l.length ≤ 9223372036854775807) : face_Check l = some (if 300 < l.length then 4 else firstE (likeF l) l.length 0) := by
  unfold face_Check
  rw [cnd_if]
  by_cases h3 : 300 < l.length
  · rw [if_pos (by omega), if_pos h3]
  · rw [if_neg (by omega), if_neg h3]
    refine scan l.length _ (fun next k hk => ?_) fun next => ?_
    · unfold face_Check_l1 likeF
      rw [at_D hk]
      simp (disch := omega) only [cnd_if, gAt_nat, bnd_pure, if_pos, outside_eq]
      by_cases h1 : 1 ≤ l[k].Id ∧ l[k].Id ≤ 1000000
      · by_cases h2 : 1 ≤ l[k].Photo ∧ l[k].Photo ≤ 1000000
        · have hh : ¬ (¬ (1 ≤ l[k].Id ∧ l[k].Id ≤ 1000000) ∨ ¬ (1 ≤ l[k].Photo ∧ l[k].Photo ≤ 1000000)) := by omega
          rw [if_neg (by omega), if_neg (by omega), if_neg hh]
          have hj2 : face_Check_j2 (k : Int) next l[k] = if vecF l[k].Vec = 0 then next ((k : Int) + 1) else some (vecF l[k].Vec) := by
            unfold face_Check_j2
            rw [face_CheckVec_eq, bnd_pure, gI_ok (by omega), bnd_pure, cnd_if]
            by_cases hv : vecF l[k].Vec = 0 <;> simp [hv]
          by_cases hk0 : 0 < k
          · have hm : (l.getD (k - 1) default) = l[k - 1] := at_D (show k - 1 < l.length by omega)
            rw [if_pos (by omega), gI_ok (by omega), bnd_pure, show ((k : Int) - 1) = ((k - 1 : Nat) : Int) from by omega, gAt_nat (by omega), bnd_pure, hm]
            by_cases hle : l[k].Id ≤ l[k - 1].Id
            · have hc : (if 0 < k ∧ l[k].Id ≤ l[k - 1].Id then (5 : Int) else vecF l[k].Vec) = 5 := if_pos ⟨hk0, hle⟩
              rw [if_pos hle, hc, if_neg (by decide)]
            · have hc : (if 0 < k ∧ l[k].Id ≤ l[k - 1].Id then (5 : Int) else vecF l[k].Vec) = vecF l[k].Vec := if_neg fun h => hle h.2
              rw [if_neg hle, hc, hj2]
          · have hc : (if 0 < k ∧ l[k].Id ≤ (l.getD (k - 1) default).Id then (5 : Int) else vecF l[k].Vec) = vecF l[k].Vec := if_neg fun h => hk0 h.1
            rw [if_neg (by omega), hc, hj2]
        · have hh : ¬ (1 ≤ l[k].Id ∧ l[k].Id ≤ 1000000) ∨ ¬ (1 ≤ l[k].Photo ∧ l[k].Photo ≤ 1000000) := .inr h2
          rw [if_neg (by omega), if_pos (by omega), if_pos hh, if_neg (by decide)]
      · have hh : ¬ (1 ≤ l[k].Id ∧ l[k].Id ≤ 1000000) ∨ ¬ (1 ≤ l[k].Photo ∧ l[k].Photo ≤ 1000000) := .inl h1
        rw [if_pos (by omega), if_pos hh, if_neg (by decide)]
    · unfold face_Check_l1
      rw [cnd_if, if_neg (by omega)]


end Go.M

/- Searches in lists, in plain Lean. Conditions: few elements. -/
namespace Go.M
open Go.Md Go.Pl
set_option linter.unusedVariables false

theorem half {x : Int} (h : 0 ≤ x ∧ x ≤ 4611686018427387904) : gShr 64 (wU64 x) 1 = some (x / 2) ∧ wI64 (x / 2) = x / 2 := by
  refine ⟨?_, wI64_in (by omega)⟩
  rw [wU64_in (by omega)]
  unfold gShr
  rw [if_pos (by omega)]
  rfl
theorem decT {p : Prop} [Decidable p] (h : p) : decide p = true := decide_eq_true h
theorem decF {p : Prop} [Decidable p] (h : ¬ p) : decide p = false := decide_eq_false h

/-- Where the first one is, or -1. -/
def idx {α : Type} (g : α → Bool) (l : List α) : Int := match l.findIdx? g with | some k => (k : Int) | none => -1
theorem idx_nn {α : Type} (g : α → Bool) (l : List α) : decide (0 ≤ idx g l) = l.any g := by
  unfold idx
  cases h : l.findIdx? g with
  | none =>
    rw [List.findIdx?_eq_none_iff] at h
    have : l.any g = false := by rw [List.any_eq_false]; intro x hx; simp [h x hx]
    rw [this]; rfl
  | some k =>
    have : l.any g = true := by
      rw [List.findIdx?_eq_some_iff_getElem] at h
      obtain ⟨h1, h2, _⟩ := h
      exact List.any_eq_true.2 ⟨_, List.getElem_mem h1, h2⟩
    rw [this]; simp

theorem index_loop {α : Type} {F : (Int → Option Int) → Int → Option Int} (l : List α) (g : α → Bool)
    (more : ∀ (next : Int → Option Int) (k : Nat) (h : k < l.length), F next (k : Int) = if g l[k] = true then some (k : Int) else next ((k : Int) + 1)) (last : ∀ next, F next (l.length : Int) = some (-1)) : fix F 0 = some (idx g l) := by
  have h := up (F := F) l.length (fun k => some (match (l.drop k).findIdx? g with | some j => ((k + j : Nat) : Int) | none => -1)) (fun next k hk ih => by
    rcases Nat.lt_or_ge k l.length with h | h
    · rw [more next k h, List.drop_eq_getElem_cons h, List.findIdx?_cons]
      by_cases hg : g l[k] = true
      · rw [if_pos hg, if_pos hg]; rfl
      · rw [if_neg hg, if_neg hg, ih h]
        cases (l.drop (k + 1)).findIdx? g with
        | none => rfl
        | some j => simp only [Option.map_some]; rw [show k + 1 + j = k + (j + 1) by omega]
    · have : k = l.length := by omega
      subst this
      rw [last, List.drop_length]; rfl)
  rw [h, List.drop_zero]
  unfold idx
  cases l.findIdx? g <;> simp

theorem indexFunc_of {α : Type} {l : List α} {f : α → Option Bool} {g : α → Bool} (hl : l.length ≤ 9223372036854775000) (hf : ∀ x ∈ l, f x = some (g x)) {F : (Int → Option Int) → Int → Option Int}
    (hF : ∀ next x, F next x = cnd (decide (x < (l.length : Int))) (bnd (gAt l x) fun t14 => bnd (f t14) fun t16 => cnd t16 (some x) (bnd (gI (x + 1)) fun t18 => next t18)) (some (-1))) : fix F 0 = some (idx g l) := by
  refine index_loop l g (fun next k h => ?_) fun next => ?_
  · rw [hF, decT (by omega), cnd_true, gAt_nat h, bnd_pure, hf _ (List.getElem_mem h), bnd_pure, gI_ok (by omega), bnd_pure]
    by_cases hg : g l[k] = true
    · rw [if_pos hg, hg, cnd_true]
    · rw [if_neg hg, (by simpa using hg : g l[k] = false), cnd_false]
  · rw [hF, decF (by omega), cnd_false]

theorem indexInt_eq (l : List Int) (f : Int → Option Bool) (g : Int → Bool) (hl : l.length ≤ 9223372036854775000) (hf : ∀ x ∈ l, f x = some (g x)) : slices_IndexFunc_int l f = some (idx g l) := indexFunc_of hl hf fun _ _ => rfl
theorem containsFunc_eq (l : List Int) (f : Int → Option Bool) (g : Int → Bool) (hl : l.length ≤ 9223372036854775000) (hf : ∀ x ∈ l, f x = some (g x)) : slices_ContainsFunc_int l f = some (l.any g) := by
  unfold slices_ContainsFunc_int
  rw [indexInt_eq l f g hl hf, bnd_pure, idx_nn]
theorem indexByte_eq (l : List Int) (f : Int → Option Bool) (g : Int → Bool) (hl : l.length ≤ 9223372036854775000) (hf : ∀ x ∈ l, f x = some (g x)) : slices_IndexFunc_byte l f = some (idx g l) := indexFunc_of hl hf fun _ _ => rfl
theorem containsByte_eq (l : List Int) (f : Int → Option Bool) (g : Int → Bool) (hl : l.length ≤ 9223372036854775000) (hf : ∀ x ∈ l, f x = some (g x)) : slices_ContainsFunc_byte l f = some (l.any g) := by
  unfold slices_ContainsFunc_byte
  rw [indexByte_eq l f g hl hf, bnd_pure, idx_nn]
theorem indexPerson_eq (l : List T_face_Person) (f : T_face_Person → Option Bool) (g : T_face_Person → Bool) (hl : l.length ≤ 9223372036854775000) (hf : ∀ x ∈ l, f x = some (g x)) : slices_IndexFunc_face_Person l f = some (idx g l) := indexFunc_of hl hf fun _ _ => rfl
theorem any_eq (l : List Int) (n : Int) : l.any (fun x => decide (n = x)) = decide (n ∈ l) := by
  rw [Bool.eq_iff_iff, List.any_eq_true, decide_eq_true_iff]
  constructor
  · rintro ⟨x, hx, h⟩; simp at h; subst h; exact hx
  · intro h; exact ⟨n, h, by simp⟩
theorem contains_eq (l : List Int) (n : Int) (hl : l.length ≤ 9223372036854775000) : slices_Contains_int l n = some (decide (n ∈ l)) := by
  unfold slices_Contains_int
  rw [show slices_Index_int l n = some (idx (fun x => decide (n = x)) l) from indexFunc_of (f := fun t14 => some (decide (n = t14))) hl (fun _ _ => rfl) fun _ _ => rfl, bnd_pure, idx_nn, any_eq]

/-- A binary search: how many are less. -/
theorem bin_loop {α ρ : Type} {F : (Int × Int → Option ρ) → Int × Int → Option ρ} (l : List α) (p : α → Bool) (mono : ∀ (i j : Nat) (hi : i < l.length) (hj : j < l.length), i < j → p l[j] = true → p l[i] = true) (J : Int → Option ρ)
    (more : ∀ (next : Int × Int → Option ρ) (i j : Nat) (h : (i + j) / 2 < l.length), i < j → j ≤ l.length → F next ((i : Int), (j : Int)) = if p l[(i + j) / 2] = true then next (((i + j) / 2 : Nat) + 1, (j : Int)) else next ((i : Int), (((i + j) / 2 : Nat) : Int)))
    (stop : ∀ next (i : Nat), i ≤ l.length → F next ((i : Int), (i : Int)) = J i) :
    ∃ k : Nat, k ≤ l.length ∧ (∀ (i : Nat) (h : i < l.length), i < k → p l[i] = true) ∧ (∀ (i : Nat) (h : i < l.length), k ≤ i → p l[i] = false) ∧ fix F (0, (l.length : Int)) = J k := by
  have key : ∀ n i j, i ≤ j → j ≤ l.length → j - i < n → (∀ (q : Nat) (h : q < l.length), q < i → p l[q] = true) → (∀ (q : Nat) (h : q < l.length), j ≤ q → p l[q] = false) →
      ∃ k : Nat, k ≤ l.length ∧ (∀ (i : Nat) (h : i < l.length), i < k → p l[i] = true) ∧ (∀ (i : Nat) (h : i < l.length), k ≤ i → p l[i] = false) ∧ fix F ((i : Int), (j : Int)) = J k := by
    intro n
    induction n with
    | zero => intro i j _ _ h; omega
    | succ n ih =>
      intro i j h1 h2 h3 h4 h5
      rcases Nat.lt_or_ge i j with h | h
      · have hb : (i + j) / 2 < l.length := by omega
        by_cases hp : p l[(i + j) / 2] = true
        · rw [fix_goto ((((i + j) / 2 + 1 : Nat) : Int), (j : Int)) fun next => by rw [more next i j hb h h2, if_pos hp]; rfl]
          refine ih _ _ (by omega) h2 (by omega) (fun q hq hq2 => ?_) h5
          rcases Nat.lt_or_ge q ((i + j) / 2) with h6 | h6
          · exact mono q _ hq hb h6 hp
          · have : q = (i + j) / 2 := by omega
            subst this; exact hp
        · rw [fix_goto ((i : Int), (((i + j) / 2 : Nat) : Int)) fun next => by rw [more next i j hb h h2, if_neg hp]]
          refine ih _ _ (by omega) (by omega) (by omega) h4 fun q hq hq2 => ?_
          rcases Nat.lt_or_ge ((i + j) / 2) q with h6 | h6
          · cases h7 : p l[q] with
            | false => rfl
            | true => exact absurd (mono _ q hb hq h6 h7) hp
          · have : q = (i + j) / 2 := by omega
            subst this; simpa using hp
      · have : i = j := by omega
        subst this
        exact ⟨i, h2, h4, h5, fix_done fun next => stop next i h2⟩
  simpa using key (l.length + 1) 0 l.length (Nat.zero_le _) (Nat.le_refl _) (by omega) (fun q _ h => by omega) (fun q h h' => by omega)

/-- Likenesses by rising Ids. -/
def Rise (l : List T_face_Likeness) : Prop := l.Pairwise fun x y => x.Id < y.Id
def has (id : Int) (x : T_face_Likeness) : Bool := decide (x.Id = id)

theorem at_eq (l : List T_face_Likeness) (id : Int) (hr : Rise l) (hl : l.length ≤ 1000000000) :
    ∃ i b, face_at l id = some (i, b) ∧ b = l.any (has id) ∧ (b = true → i = idx (has id) l) := by
  have hp := List.pairwise_iff_getElem.1 hr
  obtain ⟨k, h1, h2, h3, h4⟩ := bin_loop (F := fun next2 s => slices_BinarySearchFunc_face_Likeness_int_l2 l id face_at_1 next2 s.1 s.2) l (fun x => decide (x.Id < id)) (fun i j hi hj hij h => by have := hp i j hi hj hij; simp at h ⊢; omega) (slices_BinarySearchFunc_face_Likeness_int_j1 l id face_at_1)
    (fun next i j h hij hj => by
      obtain ⟨f1, f2⟩ := half (x := (i : Int) + j) (by omega)
      rw [show ((i : Int) + j) / 2 = (((i + j) / 2 : Nat) : Int) by omega] at f1 f2
      simp only [slices_BinarySearchFunc_face_Likeness_int_l2]
      rw [decT (by omega), cnd_true, gI_ok (by omega), bnd_pure, f1, bnd_pure, f2, gAt_nat h, bnd_pure]
      unfold face_at_1
      by_cases hlt : l[(i + j) / 2].Id < id
      · rw [decT hlt, cnd_true, bnd_pure, decT (by omega), cnd_true, gI_ok (by omega), bnd_pure, if_pos rfl]
      · rw [decF hlt, cnd_false, if_neg (by simp)]
        by_cases hgt : id < l[(i + j) / 2].Id
        · rw [decT hgt, cnd_true, bnd_pure, decF (by omega), cnd_false]
        · rw [decF hgt, cnd_false, bnd_pure, decF (by omega), cnd_false])
    (fun next i hi => by
      simp only [slices_BinarySearchFunc_face_Likeness_int_l2]
      rw [decF (by omega), cnd_false])
  have hfix : face_at l id = bnd (slices_BinarySearchFunc_face_Likeness_int_j1 l id face_at_1 k) fun t8 => some (t8.1, t8.2) := by
    unfold face_at slices_BinarySearchFunc_face_Likeness_int
    rw [h4]
  unfold slices_BinarySearchFunc_face_Likeness_int_j1 at hfix
  have none_of : (∀ x ∈ l, x.Id ≠ id) → l.any (has id) = false := fun h => by
    rw [List.any_eq_false]; intro x hx; simp [has, h x hx]
  rcases Nat.lt_or_ge k l.length with hk | hk
  · rw [decT (by omega), cnd_true, gAt_nat hk, bnd_pure] at hfix
    unfold face_at_1 at hfix
    have hge := h3 k hk (Nat.le_refl _)
    simp at hge
    rw [decF (by omega), cnd_false] at hfix
    by_cases hgt : id < l[k].Id
    · rw [decT hgt, cnd_true, bnd_pure, bnd_pure] at hfix
      refine ⟨_, _, hfix, ?_, fun h => by simp at h⟩
      rw [none_of]; rfl
      intro x hx
      obtain ⟨j, hj, rfl⟩ := List.getElem_of_mem hx
      rcases Nat.lt_or_ge j k with h | h
      · have := h2 j hj h; simp at this; omega
      · rcases Nat.lt_or_ge k j with h' | h'
        · have := hp k j hk hj h'; omega
        · have : j = k := by omega
          subst this; omega
    · rw [decF hgt, cnd_false, bnd_pure, bnd_pure] at hfix
      have he : l[k].Id = id := by omega
      have hany : l.any (has id) = true := List.any_eq_true.2 ⟨_, List.getElem_mem hk, by simp [has, he]⟩
      refine ⟨_, _, hfix, by rw [hany]; rfl, fun _ => ?_⟩
      unfold idx
      have : l.findIdx? (has id) = some k := by
        rw [List.findIdx?_eq_some_iff_getElem]
        refine ⟨hk, by simp [has, he], fun j hj => ?_⟩
        have := h2 j (by omega) hj
        simp at this
        simp [has]; omega
      rw [this]
  · rw [decF (by omega), cnd_false, bnd_pure] at hfix
    refine ⟨_, _, hfix, ?_, fun h => by simp at h⟩
    rw [none_of]
    intro x hx
    obtain ⟨j, hj, rfl⟩ := List.getElem_of_mem hx
    have := h2 j hj (by omega); simp at this; omega

theorem bcontains_eq (l : List Int) (n : Int) (hr : l.Pairwise fun x y => x < y) (hl : l.length ≤ 1000000000000000) : face_contains l n = some (decide (n ∈ l)) := by
  have hp := List.pairwise_iff_getElem.1 hr
  have hless : ∀ a b, cmp_Less_int a b = some (decide (a < b)) := fun a b => by
    unfold cmp_Less_int cmp_isNaN_int; simp
  obtain ⟨k, h1, h2, h3, h4⟩ := bin_loop (F := fun next2 s => slices_BinarySearch_int_l2 l n next2 s.1 s.2) l (fun x => decide (x < n)) (fun i j hi hj hij h => by have := hp i j hi hj hij; simp at h ⊢; omega) (slices_BinarySearch_int_j1 l n)
    (fun next i j h hij hj => by
      obtain ⟨f1, f2⟩ := half (x := (i : Int) + j) (by omega)
      rw [show ((i : Int) + j) / 2 = (((i + j) / 2 : Nat) : Int) by omega] at f1 f2
      simp only [slices_BinarySearch_int_l2]
      rw [decT (by omega), cnd_true, gI_ok (by omega), bnd_pure, f1, bnd_pure, f2, gAt_nat h, bnd_pure, hless, bnd_pure]
      by_cases hlt : l[(i + j) / 2] < n
      · rw [decT hlt, cnd_true, gI_ok (by omega), bnd_pure, if_pos rfl]
      · rw [decF hlt, cnd_false, if_neg (by simp)])
    (fun next i hi => by
      simp only [slices_BinarySearch_int_l2]
      rw [decF (by omega), cnd_false])
  unfold face_contains slices_BinarySearch_int
  rw [h4]
  unfold slices_BinarySearch_int_j1 slices_isNaN_int
  rcases Nat.lt_or_ge k l.length with hk | hk
  · rw [decT (by omega), cnd_true, gAt_nat hk, bnd_pure]
    have hge := h3 k hk (Nat.le_refl _)
    simp at hge
    by_cases he : l[k] = n
    · rw [decT he, cnd_true, bnd_pure, decT (he ▸ List.getElem_mem hk)]
    · rw [decF he, cnd_false, bnd_pure, bnd_pure, decF (by simp), cnd_false, bnd_pure]
      rw [decF]
      intro hm
      obtain ⟨j, hj, hje⟩ := List.getElem_of_mem hm
      rcases Nat.lt_or_ge j k with h | h
      · have := h2 j hj h; simp at this; omega
      · rcases Nat.lt_or_ge k j with h' | h'
        · have := hp k j hk hj h'; omega
        · have : j = k := by omega
          subst this; omega
  · rw [decF (by omega), cnd_false, bnd_pure]
    rw [decF]
    intro hm
    obtain ⟨j, hj, hje⟩ := List.getElem_of_mem hm
    have := h2 j hj (by omega); simp at this; omega

noncomputable def R_LikeAt (l : List T_face_Likeness) (id : Int) : Option Int := some (idx (has id) l)
theorem likeAt_eq (l : List T_face_Likeness) (id : Int) (hl : l.length ≤ 9223372036854775000) : R_LikeAt l id = some (idx (has id) l) := rfl

end Go.M

/- Distances, lists of photos, scores, in plain Lean. Conditions: few elements. -/
namespace Go.M
open Go.Md Go.Pl
set_option linter.unusedVariables false

/-- How far two are apart. -/
def farS (u v : Nat → Int) (k : Nat) (s : Int) : Int := (List.range' k (12 - k)).foldl (fun s j => s + (u j - v j) * (u j - v j)) s
def farV (u v : Nat → Int) : Int := farS u v 0 0

theorem sq_bd {x : Int} (hx : -254 ≤ x ∧ x ≤ 254) : 0 ≤ x * x ∧ x * x ≤ 64516 := by
  refine ⟨?_, ?_⟩
  · rcases Int.le_total 0 x with h0 | h0
    · exact Int.mul_nonneg h0 h0
    · exact Int.mul_nonneg_of_nonpos_of_nonpos h0 h0
  · rcases Int.le_total 0 x with h0 | h0
    · have := Int.mul_le_mul hx.2 hx.2 h0 (by omega); omega
    · have := Int.mul_le_mul (show -x ≤ 254 by omega) (show -x ≤ 254 by omega) (by omega) (by omega)
      rw [Int.neg_mul_neg] at this; omega

theorem farS_bd (u v : Nat → Int) (hu : vecF u = 0) (hv : vecF v = 0) : ∀ (m k : Nat) (s : Int), k + m = 12 → 0 ≤ s → s ≤ farS u v k s ∧ farS u v k s ≤ s + m * 64516 := by
  intro m
  induction m with
  | zero => intro k s h hs; have : k = 12 := by omega
            subst this; simp [farS]
  | succ m ih =>
    intro k s h hs
    have h1 := vecF_ok hu k (by omega)
    have h2 := vecF_ok hv k (by omega)
    have h3 := sq_bd (x := u k - v k) (by omega)
    have e : farS u v k s = farS u v (k + 1) (s + (u k - v k) * (u k - v k)) := by
      unfold farS
      rw [show 12 - k = (12 - (k + 1)) + 1 from by omega, List.range'_succ, List.foldl_cons]
    have := ih (k + 1) (s + (u k - v k) * (u k - v k)) (by omega) (by omega)
    rw [e]
    omega

theorem farV_bd (u v : Nat → Int) (hu : vecF u = 0) (hv : vecF v = 0) : 0 ≤ farV u v ∧ farV u v ≤ 774192 := by
  have := farS_bd u v hu hv 12 0 0 (by omega) (by omega)
  unfold farV; omega

theorem farV_symm (u v : Nat → Int) : farV u v = farV v u := by
  have : (fun (s : Int) (j : Nat) => s + (u j - v j) * (u j - v j)) = fun s j => s + (v j - u j) * (v j - u j) := by
    funext s j
    rw [show v j - u j = -(u j - v j) by omega, Int.neg_mul_neg]
  unfold farV farS
  rw [this]

theorem far_eq (u v : Nat → Int) (hu : vecF u = 0) (hv : vecF v = 0) : face_far u v = some (farV u v) := by
  unfold face_far
  refine up2r (σ := Int) 12 (fun k s => some (farS u v k s)) (fun k s => 0 ≤ s ∧ s ≤ k * 64516) (fun next k s hk hI ih => ?_) 0 (by simp)
  unfold face_far_l1
  by_cases h : k < 12
  · have h1 := vecF_ok hu k h
    have h2 := vecF_ok hv k h
    have h3 := sq_bd (x := u k - v k) (by omega)
    simp (disch := omega) only [cnd_if, gI_ok, gIx_nat, bnd_pure, if_pos, if_neg]
    rw [ih _ h (by omega)]
    unfold farS
    rw [show 12 - k = (12 - (k + 1)) + 1 from by omega, List.range'_succ, List.foldl_cons]
  · have : k = 12 := by omega
    subst this
    rfl

theorem concat_eq (a b : List Int) (ha : a.length + b.length ≤ 35184372088832) : slices_Concat_int [a, b] = some (a ++ b) := by
  unfold slices_Concat_int
  refine (fix_goto (F := fun next3 s => slices_Concat_int_l3 [a, b] next3 s.1 s.2) ((a.length : Int), 1) fun next => ?_).trans ((fix_goto (F := fun next3 s => slices_Concat_int_l3 [a, b] next3 s.1 s.2) ((a.length : Int) + (b.length : Int), 2) fun next => ?_).trans (fix_done fun next => ?_))
  · show slices_Concat_int_l3 [a, b] next 0 0 = _
    unfold slices_Concat_int_l3
    rw [decT (by simp), cnd_true, show gAt [a, b] 0 = some a from rfl, bnd_pure, gI_ok (by omega), bnd_pure, decF (by omega), cnd_false, gI_ok (by omega), bnd_pure]
    simp
  · show slices_Concat_int_l3 [a, b] next (a.length : Int) 1 = _
    unfold slices_Concat_int_l3
    rw [decT (by simp), cnd_true, show gAt [a, b] 1 = some b from rfl, bnd_pure, gI_ok (by omega), bnd_pure, decF (by omega), cnd_false, gI_ok (by omega), bnd_pure]
    rfl
  · show slices_Concat_int_l3 [a, b] next ((a.length : Int) + (b.length : Int)) 2 = _
    unfold slices_Concat_int_l3
    rw [decF (by simp), cnd_false]
    unfold slices_Concat_int_j1
    rw [gGroC_ok (by omega), bnd_pure]
    have hc : ((a.length : Int) + (b.length : Int)).toNat = a.length + b.length := by omega
    refine (fix_goto (F := fun next2 s => slices_Concat_int_l2 [a, b] ((a.length : Int) + (b.length : Int)).toNat next2 s.1 s.2) (1, a) fun next => ?_).trans ((fix_goto (F := fun next2 s => slices_Concat_int_l2 [a, b] ((a.length : Int) + (b.length : Int)).toNat next2 s.1 s.2) (2, a ++ b) fun next => ?_).trans (fix_done fun next => ?_))
    · show slices_Concat_int_l2 [a, b] _ next 0 [] = _
      unfold slices_Concat_int_l2
      rw [decT (by simp), cnd_true, show gAt [a, b] 0 = some a from rfl, bnd_pure, gApC_ok (by rw [hc]; simp; omega), bnd_pure, gI_ok (by omega), bnd_pure]
      rfl
    · show slices_Concat_int_l2 [a, b] _ next 1 a = _
      unfold slices_Concat_int_l2
      rw [decT (by simp), cnd_true, show gAt [a, b] 1 = some b from rfl, bnd_pure, gApC_ok (by rw [hc]; omega), bnd_pure, gI_ok (by omega), bnd_pure]
      rfl
    · show slices_Concat_int_l2 [a, b] _ next 2 (a ++ b) = _
      unfold slices_Concat_int_l2
      rw [decF (by simp), cnd_false]

theorem cmpFrom_len (p : Int) : ∀ l : List Int, (cmpFrom p l).length ≤ l.length
  | [] => by simp [cmpFrom]
  | y :: l => by
    unfold cmpFrom
    split
    · have := cmpFrom_len p l; simp; omega
    · have := cmpFrom_len y l; simp; omega
theorem cmpFrom_lt : ∀ (l : List Int) (p : Int), (p :: l).Pairwise (fun x y => decide (x ≤ y) = true) → ((cmpFrom p l).length < l.length ↔ ¬ (p :: l).Nodup)
  | [], p, _ => by simp [cmpFrom]
  | y :: l, p, h => by
    have hp := List.pairwise_cons.1 h
    have ih := cmpFrom_lt l y hp.2
    unfold cmpFrom
    by_cases he : y = p
    · subst he
      rw [if_pos rfl]
      have := cmpFrom_len y l
      simp
      omega
    · rw [if_neg he]
      simp only [List.length_cons, Nat.add_lt_add_iff_right]
      rw [ih]
      refine not_congr ⟨fun hn => List.nodup_cons.2 ⟨fun hm => ?_, hn⟩, fun hn => (List.nodup_cons.1 hn).2⟩
      have hy := hp.1 y (by simp)
      simp at hy
      rcases List.mem_cons.1 hm with h1 | h1
      · exact he h1.symm
      · have := (List.pairwise_cons.1 hp.2).1 p h1
        simp at this; omega
theorem cmpL_lt (l : List Int) (h : l.Pairwise (fun x y => decide (x ≤ y) = true)) : (cmpL l).length < l.length ↔ ¬ l.Nodup := by
  cases l with
  | nil => simp [cmpL]
  | cons p l => simp only [cmpL, List.length_cons, Nat.add_lt_add_iff_right]; exact cmpFrom_lt l p h

def sorted (l : List Int) : List Int := l.mergeSort fun x y => decide (x ≤ y)
theorem sorted_pw (l : List Int) : (sorted l).Pairwise fun x y => decide (x ≤ y) = true :=
  List.pairwise_mergeSort (le := fun x y => decide (x ≤ y)) (fun a b c h1 h2 => by simp at *; omega) (fun a b => by simp; omega) l
theorem sorted_perm (l : List Int) : (sorted l).Perm l := List.mergeSort_perm l _
theorem sorted_len (l : List Int) : (sorted l).length = l.length := List.length_mergeSort _

/-- Whether one is there twice. -/
theorem with_eq (l : List Int) (hl : l.length ≤ 35184372088832) : ∃ w, face_with l [] = some w ∧ (w.length < l.length ↔ ¬ l.Nodup) := by
  unfold face_with
  rw [concat_eq l [] (by simpa using hl), bnd_pure, List.append_nil]
  unfold gSortI
  rw [if_pos (by omega), bnd_pure]
  unfold gCmpI
  rw [if_pos (by rw [List.length_mergeSort]; omega), bnd_pure]
  refine ⟨_, rfl, ?_⟩
  have h := cmpL_lt (sorted l) (sorted_pw l)
  rw [sorted_len] at h
  exact h.trans (not_congr (sorted_perm l).nodup_iff)

/-- Right likenesses. -/
structure Good (l : List T_face_Likeness) : Prop where
  len : l.length ≤ 300
  rise : Rise l
  vec : ∀ x ∈ l, vecF x.Vec = 0

theorem likeF_get (l : List T_face_Likeness) (j : Nat) (h : j < l.length) (h0 : likeF l j = 0) : vecF l[j].Vec = 0 ∧ ∀ (i : Nat) (hi : i + 1 = j), l[i].Id < l[j].Id := by
  unfold likeF at h0
  rw [at_D h] at h0
  split at h0
  · cases h0
  split at h0
  · cases h0
  · rename_i h1 h2
    refine ⟨h0, fun i hi => ?_⟩
    subst hi
    rw [show i + 1 - 1 = i from rfl, at_D (by omega)] at h2
    omega

theorem good_of (l : List T_face_Likeness) (hl : l.length ≤ 300) (h : firstE (likeF l) l.length 0 = 0) : Good l := by
  have hj := fun (j : Nat) (hj : j < l.length) => likeF_get l j hj (firstE_zero h j (Nat.zero_le _) (by omega))
  refine ⟨hl, List.pairwise_iff_getElem.2 ?_, fun x hx => ?_⟩
  · have step : ∀ d i (hi : i < l.length) (hd : i + d + 1 < l.length), l[i].Id < l[i + d + 1].Id := by
      intro d
      induction d with
      | zero => intro i hi hd; exact (hj (i + 0 + 1) hd).2 i rfl
      | succ d ih =>
        intro i hi hd
        have h1 := ih i hi (by omega)
        have h2 := (hj (i + (d + 1) + 1) hd).2 (i + d + 1) rfl
        omega
    intro i j hi hj hij
    have := step (j - i - 1) i hi (by omega)
    simpa [show i + (j - i - 1) + 1 = j by omega] using this
  · obtain ⟨j, hj', rfl⟩ := List.getElem_of_mem hx
    exact (hj j hj').1

/-- The likeness with an Id. -/
def like (l : List T_face_Likeness) (id : Int) : T_face_Likeness := (l.find? (has id)).getD default
theorem any_idx {l : List T_face_Likeness} {id : Int} (h : l.any (has id) = true) : ∃ (k : Nat) (hk : k < l.length), idx (has id) l = k ∧ l[k] = like l id ∧ l[k].Id = id := by
  have h0 := idx_nn (has id) l
  rw [h] at h0
  unfold idx at h0 ⊢
  cases hf : l.findIdx? (has id) with
  | none => rw [hf] at h0; simp at h0
  | some k =>
    have h1 := List.findIdx?_eq_some_iff_getElem.1 hf
    obtain ⟨hk, h2, h3⟩ := h1
    refine ⟨k, hk, rfl, ?_, by simpa [has] using h2⟩
    unfold like
    have : l.find? (has id) = some l[k] := by
      rw [List.find?_eq_some_iff_getElem]
      exact ⟨h2, k, hk, rfl, fun j hj => by simpa using h3 j hj⟩
    rw [this]; rfl
theorem like_mem {l : List T_face_Likeness} {id : Int} (h : l.any (has id) = true) : like l id ∈ l := by
  obtain ⟨k, hk, _, h2, _⟩ := any_idx h
  rw [← h2]; exact List.getElem_mem hk
theorem idx_neg {l : List T_face_Likeness} {id : Int} : decide (idx (has id) l < 0) = !l.any (has id) := by
  rw [← idx_nn]
  by_cases h : idx (has id) l < 0
  · rw [decT h, decF (by omega)]; rfl
  · rw [decF h, decT (by omega)]; rfl

theorem good_at {l : List T_face_Likeness} (hg : Good l) {id : Int} (h : l.any (has id) = true) : ∃ k : Nat, ∃ hk : k < l.length, face_at l id = some ((k : Int), true) ∧ gAt l (k : Int) = some (like l id) ∧ R_LikeAt l id = some (k : Int) := by
  have := hg.len
  obtain ⟨i, b, h1, h2, h3⟩ := at_eq l id hg.rise (by omega)
  rw [h] at h2
  obtain ⟨k, hk, h4, h5, _⟩ := any_idx h
  refine ⟨k, hk, ?_, ?_, ?_⟩
  · rw [h1, h2, h3 h2, h4]
  · rw [gAt_nat hk, h5]
  · rw [likeAt_eq l id (by omega), h4]
theorem good_at_not {l : List T_face_Likeness} (hg : Good l) {id : Int} (h : l.any (has id) = false) : ∃ i : Int, face_at l id = some (i, false) := by
  have := hg.len
  obtain ⟨i, b, h1, h2, h3⟩ := at_eq l id hg.rise (by omega)
  rw [h] at h2
  exact ⟨i, by rw [h1, h2]⟩

/-! ### scores -/

def dist (l : List T_face_Likeness) (id k : Int) : Int := farV (like l id).Vec (like l k).Vec
def addF (l : List T_face_Likeness) (id : Int) (s : List Int) (k : Int) : List Int := if k = id then s else s ++ [dist l id k]

theorem dist_bd {l : List T_face_Likeness} (hg : Good l) {id k : Int} (h1 : l.any (has id) = true) (h2 : l.any (has k) = true) : 0 ≤ dist l id k ∧ dist l id k ≤ 774192 := farV_bd _ _ (hg.vec _ (like_mem h1)) (hg.vec _ (like_mem h2))

theorem score_loop {l : List T_face_Likeness} (hg : Good l) (p : T_face_Person) (id : Int) (hp : p.Likes.length ≤ 17592186044000) (hid : l.any (has id) = true) (hk : ∀ k ∈ p.Likes, l.any (has k) = true) :
    face_score l p id = face_score_j1 (p.Likes.foldl (addF l id) []) := by
  unfold face_score
  obtain ⟨n, hn, a1, a2, a3⟩ := good_at hg hid
  rw [a1, bnd_pure]
  refine fix_list (F := fun next4 s => face_score_l4 l p id ((n : Int), true) next4 s.1 s.2) p.Likes (addF l id) face_score_j1 (fun k s => s.length ≤ k) (fun next k s hk' hs => ?_) (fun next s _ => ?_) [] (Nat.zero_le _)
  · simp only [face_score_l4]
    obtain ⟨m, hm, b1, b2, b3⟩ := good_at hg (hk _ (List.getElem_mem hk'))
    unfold addF
    rw [decT (by omega), cnd_true, gAt_nat hk', bnd_pure]
    by_cases he : p.Likes[k] = id
    · rw [decF (by simpa using he), cnd_false, if_pos he]
      simp only [face_score_j5]
      rw [gI_ok (by omega), bnd_pure]
      exact ⟨rfl, by omega⟩
    · rw [decT he, cnd_true, if_neg he, b1, bnd_pure, a2, bnd_pure, b2, bnd_pure, far_eq _ _ (hg.vec _ (like_mem hid)) (hg.vec _ (like_mem (hk _ (List.getElem_mem hk')))), bnd_pure, gApp_ok (by simp; omega), bnd_pure]
      simp only [face_score_j5]
      rw [gI_ok (by omega), bnd_pure]
      exact ⟨rfl, by simp; omega⟩
  · simp only [face_score_l4]
    rw [decF (by omega), cnd_false]

theorem fars_all {l : List T_face_Likeness} (hg : Good l) (id : Int) (hid : l.any (has id) = true) : ∀ (ks s : List Int), (∀ k ∈ ks, l.any (has k) = true) → (∀ x ∈ s, 0 ≤ x ∧ x ≤ 774192) → (∀ x ∈ ks.foldl (addF l id) s, 0 ≤ x ∧ x ≤ 774192) ∧ (ks.foldl (addF l id) s).length ≤ s.length + ks.length
  | [], s, _, h => ⟨h, by simp⟩
  | k :: ks, s, hk, h => by
    rw [List.foldl_cons]
    have := fars_all hg id hid ks (addF l id s k) (fun k' h' => hk k' (List.mem_cons_of_mem _ h')) (by
      unfold addF
      split
      · exact h
      · intro x hx
        rcases List.mem_append.1 hx with hx | hx
        · exact h x hx
        · simp at hx; subst hx; exact dist_bd hg hid (hk k (by simp)))
    refine ⟨this.1, Nat.le_trans this.2 ?_⟩
    unfold addF
    split <;> simp <;> omega

theorem sum_loop (t : List Int) (ht : t.length ≤ 3) (hb : ∀ x ∈ t, 0 ≤ x ∧ x ≤ 774192) (h0 : 0 < t.length) : ∃ v, fix (fun next3 s => face_score_l3 t next3 s.1 s.2) (0, 0) = some v := by
  have h := fix_run (F := fun next3 s => face_score_l3 t next3 s.1 s.2) (fun s : Int × Int => ∃ k : Nat, s.2 = k ∧ k ≤ t.length ∧ 0 ≤ s.1 ∧ s.1 ≤ k * 774192) (fun s => t.length - s.2.toNat) (fun _ => True) (by
    rintro ⟨x, _⟩ ⟨k, rfl, hk, h1, h2⟩
    simp only [face_score_l3]
    simp only at h1 h2
    rcases Nat.lt_or_ge k t.length with h | h
    · have := hb _ (List.getElem_mem h)
      refine .inr ⟨(x + t[k], (k : Int) + 1), ⟨k + 1, by simp, by omega, by simp only; omega, by simp only; omega⟩, by simp only; omega, fun next => ?_⟩
      rw [decT (by omega), cnd_true, gAt_nat h, bnd_pure, gI_ok (by omega), bnd_pure, gI_ok (by omega), bnd_pure]
    · refine .inl ⟨x.tdiv (t.length : Int), trivial, fun next => ?_⟩
      rw [decF (by omega), cnd_false]
      simp only [face_score_j2]
      rw [gQuo_ok (by omega) (by omega), bnd_pure]) (0, 0) ⟨0, rfl, by omega, by simp, by simp⟩
  obtain ⟨v, h1, _⟩ := h
  exact ⟨v, h1⟩


end Go.M

/- People that are right, in plain Lean. Conditions: few elements. -/
namespace Go.M
open Go.Md Go.Pl
set_option linter.unusedVariables false

/-! ### names -/
theorem ofStr_any (s : List UInt8) : (ofStr s).any (fun c => decide (c < 32)) = s.any fun c => decide (c.toNat < 32) := by
  unfold ofStr
  rw [List.any_map]
  congr 1
  funext c
  simp only [Function.comp]
  congr 1
  simp; omega

def titleB (s : List UInt8) : Bool := decide (1 ≤ s.length ∧ s.length ≤ 60) && !s.any fun c => decide (c.toNat < 32)

theorem isTitle_eq (s : List UInt8) : face_isTitle s = some (titleB s) := by
  unfold face_isTitle titleB
  rw [outside_eq, bnd_pure]
  by_cases h : 1 ≤ s.length ∧ s.length ≤ 60
  · rw [decF (by omega), Bool.not_false, cnd_true, gByt_ok (by omega), bnd_pure, containsByte_eq (ofStr s) face_isTitle_1 (fun c => decide (c < 32)) (by unfold ofStr; rw [List.length_map]; omega) (fun _ _ => rfl), bnd_pure, ofStr_any, decT h, Bool.true_and]
  · rw [decT (by omega), Bool.not_true, cnd_false, decF h, Bool.false_and]

/-! ### lists of Ids -/
def idsC (l : List T_face_Likeness) (ids : List Int) (k : Nat) : Int :=
  if l.any (has (ids.getD k 0)) = false then 7 else if 0 < k ∧ ids.getD k 0 ≤ ids.getD (k - 1) 0 then 5 else 0
def idsE (l : List T_face_Likeness) (ids : List Int) : Int := firstE (idsC l ids) ids.length 0
theorem at_D0 {l : List Int} {k : Nat} (h : k < l.length) : l.getD k 0 = l[k] := by
  rw [List.getD_eq_getElem?_getD, List.getElem?_eq_getElem h]; rfl

theorem idsC_get (l : List T_face_Likeness) (ids : List Int) (j : Nat) (h : j < ids.length) (h0 : idsC l ids j = 0) : l.any (has ids[j]) = true ∧ ∀ (i : Nat) (hi : i + 1 = j), ids[i] < ids[j] := by
  unfold idsC at h0
  rw [at_D0 h] at h0
  split at h0
  · cases h0
  split at h0
  · cases h0
  · rename_i h1 h2
    refine ⟨by simpa using h1, fun i hi => ?_⟩
    subst hi
    rw [show i + 1 - 1 = i from rfl, at_D0 (by omega)] at h2
    omega

/-- Rising Ids of likenesses that are there. -/
structure IdsOk (l : List T_face_Likeness) (ids : List Int) : Prop where
  all : ∀ k ∈ ids, l.any (has k) = true
  rise : ids.Pairwise fun x y => x < y

theorem ids_of {l : List T_face_Likeness} {ids : List Int} (h : idsE l ids = 0) : IdsOk l ids := by
  have hj := fun (j : Nat) (hj : j < ids.length) => idsC_get l ids j hj (firstE_zero h j (Nat.zero_le _) (by omega))
  refine ⟨fun x hx => ?_, List.pairwise_iff_getElem.2 ?_⟩
  · obtain ⟨j, hj', rfl⟩ := List.getElem_of_mem hx
    exact (hj j hj').1
  · have step : ∀ d i (hi : i < ids.length) (hd : i + d + 1 < ids.length), ids[i] < ids[i + d + 1] := by
      intro d
      induction d with
      | zero => intro i hi hd; exact (hj (i + 0 + 1) hd).2 i rfl
      | succ d ih =>
        intro i hi hd
        have h1 := ih i hi (by omega)
        have h2 := (hj (i + (d + 1) + 1) hd).2 (i + d + 1) rfl
        omega
    intro i j hi hj hij
    have := step (j - i - 1) i hi (by omega)
    simpa [show i + (j - i - 1) + 1 = j by omega] using this

theorem checkIds_eq {l : List T_face_Likeness} (hg : Good l) (ids : List Int) (hl : ids.length ≤ 17592186044000) : face_checkIds l ids = some (idsE l ids) := by
  unfold face_checkIds idsE
  refine scan ids.length _ (fun next k hk => ?_) fun next => ?_
  · simp only [face_checkIds_l1]
    unfold idsC
    rw [decT (by omega), cnd_true, gAt_nat hk, bnd_pure, at_D0 hk]
    cases hany : l.any (has ids[k]) with
    | false =>
      obtain ⟨i, e⟩ := good_at_not hg hany
      rw [e, bnd_pure]
      simp
    | true =>
      obtain ⟨n, hn, e, _⟩ := good_at hg hany
      rw [e, bnd_pure]
      have e2 : ∀ (x y : Option Int), cnd (!((n : Int), true).2) x y = y := fun _ _ => rfl
      have e3 : ∀ (x y : Int), (if true = false then x else y) = y := fun _ _ => if_neg (by simp)
      rw [e2, e3]
      unfold face_checkIds_j2
      by_cases h0 : 0 < k
      · rw [decT (by omega), cnd_true, gI_ok (by omega), bnd_pure, show (k : Int) - 1 = ((k - 1 : Nat) : Int) by omega, gAt_nat (by omega), bnd_pure, at_D0 (show k - 1 < ids.length by omega)]
        by_cases h1 : ids[k] ≤ ids[k - 1]
        · rw [decT h1, cnd_true, show (if 0 < k ∧ ids[k] ≤ ids[k - 1] then (5 : Int) else 0) = 5 from if_pos ⟨h0, h1⟩]; simp
        · rw [decF h1, cnd_false, show (if 0 < k ∧ ids[k] ≤ ids[k - 1] then (5 : Int) else 0) = 0 from if_neg (fun h => h1 h.2), gI_ok (by omega), bnd_pure]; simp
      · rw [decF (by omega), cnd_false, show (if 0 < k ∧ ids[k] ≤ ids.getD (k - 1) 0 then (5 : Int) else 0) = 0 from if_neg (fun h => h0 h.1), gI_ok (by omega), bnd_pure]; simp
  · simp only [face_checkIds_l1]
    rw [decF (by omega), cnd_false]

/-! ### a person -/
def both (p : T_face_Person) : Bool := p.Likes.any fun k => decide (k ∈ p.Nots)
def listE (l : List T_face_Likeness) (p : T_face_Person) : Int := if idsE l p.Likes ≠ 0 then idsE l p.Likes else if idsE l p.Nots ≠ 0 then idsE l p.Nots else if both p = true then 11 else 0
def personE (l : List T_face_Likeness) (p : T_face_Person) : Int := if titleB p.Name = false then 3 else listE l p
def PSz (p : T_face_Person) : Prop := p.Likes.length ≤ 17592186044000 ∧ p.Nots.length ≤ 17592186044000

theorem checkPerson_eq {l : List T_face_Likeness} (hg : Good l) (p : T_face_Person) (hp : PSz p) : face_checkPerson l p = some (personE l p) := by
  unfold face_checkPerson personE listE
  rw [isTitle_eq, bnd_pure]
  cases ht : titleB p.Name with
  | false => rfl
  | true =>
    simp only [Bool.not_true, cnd_false, Bool.true_eq_false, if_false]
    have e0 : ∀ next, face_checkPerson_l2 l p next 0 = if idsE l p.Likes ≠ 0 then some (idsE l p.Likes) else next 1 := fun next => by
      simp only [face_checkPerson_l2]
      rw [decT (by omega), cnd_true, show gAt [p.Likes, p.Nots] 0 = some p.Likes from rfl, bnd_pure, checkIds_eq hg _ hp.1, bnd_pure, cnd_if]
      split
      · rfl
      · rw [gI_ok (by omega), bnd_pure]; rfl
    have e1 : ∀ next, face_checkPerson_l2 l p next 1 = if idsE l p.Nots ≠ 0 then some (idsE l p.Nots) else next 2 := fun next => by
      simp only [face_checkPerson_l2]
      rw [decT (by omega), cnd_true, show gAt [p.Likes, p.Nots] 1 = some p.Nots from rfl, bnd_pure, checkIds_eq hg _ hp.2, bnd_pure, cnd_if]
      split
      · rfl
      · rw [gI_ok (by omega), bnd_pure]; rfl
    by_cases h0 : idsE l p.Likes ≠ 0
    · rw [if_pos h0]; exact fix_done fun next => by rw [e0, if_pos h0]
    · rw [if_neg h0]
      rw [fix_goto (1 : Int) fun next => by rw [e0, if_neg h0]]
      by_cases h1 : idsE l p.Nots ≠ 0
      · rw [if_pos h1]; exact fix_done fun next => by rw [e1, if_pos h1]
      · rw [if_neg h1]
        rw [fix_goto (2 : Int) fun next => by rw [e1, if_neg h1]]
        refine fix_done fun next => ?_
        simp only [face_checkPerson_l2, face_checkPerson_j1]
        rw [decF (by omega), cnd_false, containsFunc_eq p.Likes (face_checkPerson_1 p) (fun k => decide (k ∈ p.Nots)) (by have := hp.1; omega) (fun x _ => by
          unfold face_checkPerson_1
          rw [bcontains_eq p.Nots x (ids_of (by simpa using h1)).rise (by have := hp.2; omega), bnd_pure]), bnd_pure]
        show cnd (both p) _ _ = _
        cases both p <;> rfl

/-! ### what was taken -/
theorem mGet_mSet (m : List (Int × Bool)) (k : Int) (v : Bool) (x : Int) : mGet (mSet m k v) x = if x = k then some v else mGet m x := by
  unfold mGet mSet mHas
  induction m with
  | nil =>
    by_cases h : x = k
    · subst h; simp
    · have : ¬ k = x := fun e => h e.symm
      simp [h, this]
  | cons a m ih =>
    by_cases ha : a.1 = k
    · have e1 : ((a :: m).any fun p => decide (p.1 = k)) = true := by simp [ha]
      rw [if_pos e1, List.map_cons, if_pos ha, List.find?_cons, List.find?_cons]
      by_cases h : x = k
      · subst h; simp
      · have hk : ¬ k = x := fun e => h e.symm
        rw [decF hk, if_neg h, decF (show ¬ a.1 = x by rw [ha]; exact hk)]
        simp only
        clear ih e1
        induction m with
        | nil => rfl
        | cons b m ih2 =>
          rw [List.map_cons, List.find?_cons, List.find?_cons]
          by_cases hb : b.1 = k
          · rw [if_pos hb, decF hk, decF (show ¬ b.1 = x by rw [hb]; exact hk)]; exact ih2
          · rw [if_neg hb]
            by_cases hbx : b.1 = x
            · rw [decT hbx]
            · rw [decF hbx]; exact ih2
    · have e1 : ((a :: m).any fun p => decide (p.1 = k)) = (m.any fun p => decide (p.1 = k)) := by simp [ha]
      rw [e1]
      by_cases hm : (m.any fun p => decide (p.1 = k)) = true
      · rw [if_pos hm] at ih ⊢
        rw [List.map_cons, if_neg ha, List.find?_cons]
        by_cases hx : a.1 = x
        · rw [decT hx]
          have : ¬ x = k := fun e => ha (hx.trans e)
          rw [if_neg this, List.find?_cons, decT hx]
        · rw [decF hx, List.find?_cons, decF hx]; exact ih
      · rw [if_neg hm] at ih ⊢
        rw [List.cons_append, List.find?_cons]
        by_cases hx : a.1 = x
        · rw [decT hx]
          have : ¬ x = k := fun e => ha (hx.trans e)
          rw [if_neg this, List.find?_cons, decT hx]
        · rw [decF hx, List.find?_cons, decF hx]; exact ih

def inM (m : List (Int × Bool)) (k : Int) : Bool := (mGet m k).getD false
def setAll (m : List (Int × Bool)) (ks : List Int) : List (Int × Bool) := ks.foldl (fun m k => mSet m k true) m
theorem inM_set (m : List (Int × Bool)) (k x : Int) : inM (mSet m k true) x = (decide (x = k) || inM m x) := by
  unfold inM
  rw [mGet_mSet]
  by_cases h : x = k <;> simp [h]
theorem inM_nil (x : Int) : inM [] x = false := rfl

def photoL (l : List T_face_Likeness) (k : Int) : Int := (like l k).Photo
def photosL (l : List T_face_Likeness) (ks : List Int) : List Int := ks.map (photoL l)

theorem photoOf_eq {l : List T_face_Likeness} (hg : Good l) {k : Int} (h : l.any (has k) = true) : face_photoOf l k = some (photoL l k) := by
  unfold face_photoOf
  obtain ⟨n, hn, e1, e2, e3⟩ := good_at hg h
  rw [e1, bnd_pure, e2, bnd_pure]; rfl

theorem photosOf_eq {l : List T_face_Likeness} (hg : Good l) (ks : List Int) (hl : ks.length ≤ 17592186044000) (h : ∀ k ∈ ks, l.any (has k) = true) : face_photosOf l ks = some (photosL l ks) := by
  unfold face_photosOf
  have e := fix_list (F := fun next1 s => face_photosOf_l1 l ks next1 s.1 s.2) ks (fun s k => s ++ [photoL l k]) (fun s => some s) (fun k s => s.length = k) (fun next k s hk hs => ?_) (fun next s _ => ?_) [] rfl
  · rw [e]
    have : ∀ (ks s : List Int), ks.foldl (fun s k => s ++ [photoL l k]) s = s ++ photosL l ks := fun ks => by
      induction ks with
      | nil => intro s; simp [photosL]
      | cons k ks ih => intro s; rw [List.foldl_cons, ih]; simp [photosL]
    rw [this]; rfl
  · simp only [face_photosOf_l1]
    rw [decT (by omega), cnd_true, gAt_nat hk, bnd_pure, photoOf_eq hg (h _ (List.getElem_mem hk)), bnd_pure, gApp_ok (by simp; omega), bnd_pure, gI_ok (by omega), bnd_pure]
    exact ⟨rfl, by simp; omega⟩
  · simp only [face_photosOf_l1]
    rw [decF (by omega), cnd_false]

/-- A like that somebody has already, or two of one photo. -/
def twice (l : List T_face_Likeness) (mp : List (Int × Bool)) (ks : List Int) : Prop := (∃ k ∈ ks, inM mp k = true) ∨ ¬ (photosL l ks).Nodup

theorem check_twice {l : List T_face_Likeness} (hg : Good l) (p : T_face_Person) (hp : PSz p) (x : Int) (next1 : (Int × (List (Int × Bool))) → Option Int) (mp : List (Int × Bool)) :
    (personE l p ≠ 0 → face_CheckPeople_j3 l x mp next1 p = some (personE l p)) ∧
    (personE l p = 0 → (twice l mp p.Likes → face_CheckPeople_j3 l x mp next1 p = some 6) ∧ (¬ twice l mp p.Likes → face_CheckPeople_j3 l x mp next1 p = bnd (gI (x + 1)) fun t77 => next1 (t77, setAll mp p.Likes))) := by
  unfold face_CheckPeople_j3
  rw [checkPerson_eq hg p hp, bnd_pure]
  refine ⟨fun h => by rw [decT h, cnd_true], fun h => ?_⟩
  have hids : IdsOk l p.Likes := by
    refine ids_of ?_
    unfold personE listE at h
    by_cases h1 : idsE l p.Likes = 0
    · exact h1
    · rw [if_pos h1] at h
      split at h
      · cases h
      · exact h
  rw [decF (by simpa using h), cnd_false, photosOf_eq hg _ hp.1 hids.all, bnd_pure, containsFunc_eq p.Likes (face_CheckPeople_1 mp) (inM mp) (by have := hp.1; omega) (fun _ _ => rfl), bnd_pure]
  obtain ⟨w, hw, hlt⟩ := with_eq (photosL l p.Likes) (by unfold photosL; rw [List.length_map]; have := hp.1; omega)
  have hany : (p.Likes.any (inM mp) = true) ↔ ∃ k ∈ p.Likes, inM mp k = true := List.any_eq_true
  constructor
  · rintro (h1 | h1)
    · rw [hany.2 h1, cnd_true]
    · cases p.Likes.any (inM mp) with
      | true => rfl
      | false => rw [cnd_false, hw, bnd_pure, decT (by have := hlt.2 h1; omega), cnd_true]
  · intro hno
    have h1 : p.Likes.any (inM mp) = false := by
      cases hc : p.Likes.any (inM mp) with
      | false => rfl
      | true => exact absurd (.inl (hany.1 hc)) hno
    have h2 : ¬ w.length < (photosL l p.Likes).length := fun h => hno (.inr (hlt.1 h))
    rw [h1, cnd_false, hw, bnd_pure, decF (by omega), cnd_false]
    have e := fix_list (F := fun next4 s => face_CheckPeople_l4 x next1 p (photosL l p.Likes) w next4 s.1 s.2) p.Likes (fun m k => mSet m k true) (fun m => bnd (gI (x + 1)) fun t77 => next1 (t77, m)) (fun _ _ => True) (fun next k s hk _ => ?_) (fun next s _ => ?_) mp trivial
    · exact e
    · simp only [face_CheckPeople_l4]
      rw [decT (by omega), cnd_true, gAt_nat hk, bnd_pure, gI_ok (by have := hp.1; omega), bnd_pure]
      exact ⟨rfl, trivial⟩
    · simp only [face_CheckPeople_l4]
      rw [decF (by omega), cnd_false]; rfl

theorem personE_ok {l : List T_face_Likeness} {p : T_face_Person} (h : personE l p = 0) : IdsOk l p.Likes ∧ IdsOk l p.Nots := by
  unfold personE at h
  split at h
  · cases h
  unfold listE at h
  by_cases h1 : idsE l p.Likes = 0
  · by_cases h2 : idsE l p.Nots = 0
    · exact ⟨ids_of h1, ids_of h2⟩
    · rw [if_neg (by simpa using h1), if_pos h2] at h; exact absurd h h2
  · rw [if_pos h1] at h; exact absurd h h1


end Go.M

/- Matches, in plain Lean. Conditions: few elements. -/
namespace Go.M
open Go.Md Go.Pl
set_option linter.unusedVariables false

def cI (a b : Int) : Int := if a < b then -1 else if b < a then 1 else 0
theorem cI_lt (a b : Int) : cI a b < 0 ↔ a < b := by unfold cI; repeat' split <;> omega
theorem cI_gt (a b : Int) : 0 < cI a b ↔ b < a := by unfold cI; repeat' split <;> omega
theorem cI_0 (a b : Int) : cI a b = 0 ↔ a = b := by unfold cI; repeat' split <;> omega

theorem compare_eq (a b : Int) : cmp_Compare_int a b = some (cI a b) := by
  unfold cmp_Compare_int cmp_isNaN_int cI
  simp only [bnd_pure, ne_eq, not_true_eq_false, decide_false, cnd_false]
  by_cases h1 : a < b
  · simp [h1]
  · by_cases h2 : b < a <;> simp [h1, h2]

theorem or_eq (p s : Int) : cmp_Or_int [p, s] = some (if p = 0 then s else p) := by
  unfold cmp_Or_int
  by_cases h : p = 0
  · subst h
    rw [fix_goto (b := (1 : Int)) (fun next => by simp [cmp_Or_int_l1, gAt, gI])]
    by_cases h2 : s = 0
    · subst h2
      rw [fix_goto (b := (2 : Int)) (fun next => by simp [cmp_Or_int_l1, gAt, gI])]
      rw [fix_done (o := some 0) (fun next => by simp [cmp_Or_int_l1])]
      rfl
    · rw [fix_done (o := some s) (fun next => by simp [cmp_Or_int_l1, gAt, h2])]
      simp
  · rw [fix_done (o := some p) (fun next => by simp [cmp_Or_int_l1, gAt, h])]
    simp [h]

def cM (x y : T_face_Match) : Int := if cI x.Far y.Far = 0 then cI x.Person y.Person else cI x.Far y.Far
theorem cmp1_eq (x y : T_face_Match) : face_matches_1 x y = some (cM x y) := by
  unfold face_matches_1
  rw [compare_eq, bnd_pure, compare_eq, bnd_pure, or_eq, bnd_pure]; rfl
theorem cM_le (x y : T_face_Match) : cM x y ≤ 0 ↔ x.Far < y.Far ∨ x.Far = y.Far ∧ x.Person ≤ y.Person := by
  unfold cM
  have h1 := cI_lt x.Far y.Far
  have h2 := cI_gt x.Far y.Far
  have h3 := cI_0 x.Far y.Far
  have h4 := cI_lt x.Person y.Person
  have h5 := cI_gt x.Person y.Person
  split <;> omega
theorem cM_0 (x y : T_face_Match) : cM x y = 0 ↔ x.Far = y.Far ∧ x.Person = y.Person := by
  unfold cM
  have h3 := cI_0 x.Far y.Far
  have h4 := cI_0 x.Person y.Person
  split <;> omega
theorem cM_lt (x y : T_face_Match) : cM x y < 0 ↔ x.Far < y.Far ∨ x.Far = y.Far ∧ x.Person < y.Person := by
  have h1 := cM_le x y
  have h2 := cM_0 x y
  omega

theorem cmpOk : CmpOk face_matches_1 where
  tot x y := ⟨_, cmp1_eq x y⟩
  flip x y := by
    rw [cmp1_eq, cmp1_eq]
    have h1 := cM_lt x y
    have h2 := cM_le y x
    simp only [Option.getD_some]
    omega
  trans x y z := by
    rw [cmp1_eq, cmp1_eq, cmp1_eq]
    simp only [Option.getD_some]
    rw [cM_le, cM_le, cM_le]
    omega
  anti x y := by
    rw [cmp1_eq]
    simp only [Option.getD_some]
    rw [cM_0]
    rintro ⟨h1, h2⟩
    cases x; cases y
    simp at h1 h2
    subst h1 h2; rfl

/-! ### photos, owners -/
theorem hasPhoto_eq {l : List T_face_Likeness} (hg : Good l) (p : T_face_Person) (id : Int) (hp : p.Likes.length ≤ 17592186044000) (hid : l.any (has id) = true) (hall : ∀ k ∈ p.Likes, l.any (has k) = true) :
    face_hasPhoto l p id = some (decide (photoL l id ∈ photosL l p.Likes)) := by
  unfold face_hasPhoto
  rw [photosOf_eq hg _ hp hall, bnd_pure, photoOf_eq hg hid, bnd_pure, contains_eq _ _ (by unfold photosL; rw [List.length_map]; omega), bnd_pure]

/-! ### matches -/
def could (l : List T_face_Likeness) (id : Int) (p : T_face_Person) : Bool := decide (0 < p.Likes.length) && (!decide (id ∈ p.Nots) && !decide (photoL l id ∈ photosL l p.Likes))
noncomputable def mk (l : List T_face_Likeness) (id : Int) (p : T_face_Person) : T_face_Match := ⟨p.Id, (face_score l p id).getD 0⟩
noncomputable def addM (l : List T_face_Likeness) (id : Int) (s : List T_face_Match) (p : T_face_Person) : List T_face_Match := if could l id p = true then s ++ [mk l id p] else s

theorem addM_all (l : List T_face_Likeness) (id : Int) : ∀ (ps : List T_face_Person) (s : List T_face_Match), ps.foldl (addM l id) s = s ++ (ps.filter (could l id)).map (mk l id)
  | [], s => by simp
  | p :: ps, s => by
    rw [List.foldl_cons, addM_all l id ps]
    unfold addM
    by_cases h : could l id p = true
    · rw [if_pos h, List.filter_cons, if_pos h]; simp
    · rw [if_neg h, List.filter_cons, if_neg h]

/-! ### the law -/

end Go.M

/- FaceSuggests in plain Lean: people that are right stay so. Conditions: few elements. -/
namespace Go.M
open Go.Md Go.Pl
set_option linter.unusedVariables false

/-! ### scores and matches -/
theorem score_j1 (s : List Int) (hl : s.length ≤ 17592186044000) (hb : ∀ x ∈ s, 0 ≤ x ∧ x ≤ 774192) : ∃ v, face_score_j1 s = some v := by
  unfold face_score_j1 gSortI
  rw [if_pos (by omega), bnd_pure]
  show ∃ v, (bnd (gCut (sorted s) 0 (min 3 ((sorted s).length : Int))) fun t60 => _) = some v
  rw [sorted_len]
  have hcut : gCut (sorted s) 0 (min 3 (s.length : Int)) = some ((sorted s).take (min 3 s.length)) := by
    rw [gCut_to (by rw [sorted_len]; omega)]
    congr 2
    omega
  rw [hcut, bnd_pure]
  by_cases h0 : s.length = 0
  · rw [decT (by rw [List.length_take, sorted_len]; omega), cnd_true]
    exact ⟨_, rfl⟩
  · rw [decF (by rw [List.length_take, sorted_len]; omega), cnd_false]
    exact sum_loop ((sorted s).take (min 3 s.length)) (by rw [List.length_take]; omega) (fun x hx => hb x ((sorted_perm s).mem_iff.1 (List.mem_of_mem_take hx))) (by rw [List.length_take, sorted_len]; omega)

theorem score_one {l : List T_face_Likeness} (hg : Good l) (p : T_face_Person) (id : Int) (hp : p.Likes.length ≤ 17592186044000) (hid : l.any (has id) = true) (hk : ∀ k ∈ p.Likes, l.any (has k) = true) : ∃ v, face_score l p id = some v := by
  rw [score_loop hg p id hp hid hk]
  have h := fars_all hg id hid p.Likes [] hk (by simp)
  exact score_j1 _ (by have := h.2; simp at this; omega) h.1

noncomputable def matchL (l : List T_face_Likeness) (ps : List T_face_Person) (id : Int) : List T_face_Match := ((ps.filter (could l id)).map (mk l id)).mergeSort (leC face_matches_1)

theorem fmatches_eq {l : List T_face_Likeness} (hg : Good l) {ps : List T_face_Person} (h100 : ps.length ≤ 100) (hf : ∀ p ∈ ps, IdsOk l p.Likes ∧ IdsOk l p.Nots) (hsz : ∀ p ∈ ps, PSz p) (id : Int) (hid : l.any (has id) = true) : face_matches l ps id = some (matchL l ps id) := by
  obtain ⟨out, hout⟩ : ∃ out, out = ps.foldl (addM l id) [] := ⟨_, rfl⟩
  have e1 := addM_all l id ps []
  rw [← hout, List.nil_append] at e1
  have hl : out.length ≤ 100 := by rw [e1, List.length_map]; exact Nat.le_trans (List.length_filter_le _ _) h100
  unfold face_matches
  have e := fix_list (F := fun next2 s => face_matches_l2 l ps id next2 s.1 s.2) ps (addM l id) face_matches_j1 (fun k s => s.length ≤ k) (fun next k s hk hs => ?_) (fun next s _ => ?_) [] (Nat.zero_le _)
  · rw [e, ← hout]
    unfold face_matches_j1 gSortF matchL
    rw [if_pos ⟨by omega, cmpOk⟩, bnd_pure, e1]
  · simp only [face_matches_l2, face_matches_j3]
    have hp := hf _ (List.getElem_mem hk)
    have hz := hsz _ (List.getElem_mem hk)
    generalize hpk : ps[k] = p at *
    obtain ⟨v, hv⟩ := score_one hg p id hz.1 hid hp.1.all
    have g1 : gI ((k : Int) + 1) = some ((k : Int) + 1) := gI_ok (by omega)
    have g2 : gApp 16 s [(⟨p.Id, v⟩ : T_face_Match)] = some (s ++ [⟨p.Id, v⟩]) := gApp_ok (by simp; omega)
    rw [decT (by omega), cnd_true, gAt_nat hk, bnd_pure, hpk, bcontains_eq _ _ hp.2.rise (by have := hz.2; omega), bnd_pure, hasPhoto_eq hg p id hz.1 hid hp.1.all, bnd_pure, hv, bnd_pure, g2, bnd_pure, g1, bnd_pure, bnd_pure]
    unfold addM could mk
    rw [hv]
    by_cases c1 : 0 < p.Likes.length
    · rw [decT (by omega), decT c1, cnd_true, Bool.true_and]
      by_cases c2 : id ∈ p.Nots
      · rw [decT c2]
        exact ⟨rfl, by simp; omega⟩
      · rw [decF c2]
        by_cases c3 : photoL l id ∈ photosL l p.Likes
        · rw [decT c3]
          exact ⟨rfl, by simp; omega⟩
        · rw [decF c3]
          exact ⟨rfl, by simp; omega⟩
    · rw [decF (by omega), decF c1, cnd_false, Bool.false_and]
      exact ⟨rfl, by simp; omega⟩
  · simp only [face_matches_l2]
    rw [decF (by omega), cnd_false]

theorem match_mem {l : List T_face_Likeness} {ps : List T_face_Person} {id : Int} {m : T_face_Match} (h : m ∈ matchL l ps id) : ∃ p ∈ ps, could l id p = true ∧ m = mk l id p := by
  have h1 := (List.mergeSort_perm _ _).mem_iff.1 h
  obtain ⟨p, hp, rfl⟩ := List.mem_map.1 h1
  have := List.mem_filter.1 hp
  exact ⟨p, this.1, this.2, rfl⟩

theorem match_sorted {l : List T_face_Likeness} {ps : List T_face_Person} {id : Int} (hr : ps.Pairwise fun p q => p.Id < q.Id) : (matchL l ps id).Pairwise fun x y => x.Far < y.Far ∨ x.Far = y.Far ∧ x.Person < y.Person := by
  have h1 : (matchL l ps id).Pairwise fun x y => leC face_matches_1 x y = true := List.pairwise_mergeSort (le := leC face_matches_1) cmpOk.letrans cmpOk.total _
  have h2 : (matchL l ps id).Pairwise fun x y => x.Person ≠ y.Person := by
    refine ((List.mergeSort_perm ((ps.filter (could l id)).map (mk l id)) (leC face_matches_1)).pairwise_iff (fun {x y} h => fun e => h e.symm)).2 ?_
    rw [List.pairwise_map]
    refine (List.Pairwise.sublist List.filter_sublist hr).imp fun {p q} h => ?_
    unfold mk
    intro e
    simp at e
    omega
  refine (h1.and h2).imp fun {x y} ⟨h3, h4⟩ => ?_
  unfold leC at h3
  rw [cmp1_eq, Option.getD_some, decide_eq_true_iff, cM_le] at h3
  rcases h3 with h3 | ⟨h3, h5⟩
  · exact .inl h3
  · exact .inr ⟨h3, by omega⟩

/-! ### people that are right -/
structure PersonOk (l : List T_face_Likeness) (p : T_face_Person) : Prop where
  idr : 1 ≤ p.Id ∧ p.Id ≤ 1000000
  title : titleB p.Name = true
  likes : IdsOk l p.Likes
  nots : IdsOk l p.Nots
  apart : ∀ k ∈ p.Likes, k ∉ p.Nots
  photos : (photosL l p.Likes).Nodup
structure Right (l : List T_face_Likeness) (ps : List T_face_Person) : Prop where
  len : ps.length ≤ 100
  all : ∀ p ∈ ps, PersonOk l p
  rise : ps.Pairwise fun p q => p.Id < q.Id
  own : ps.Pairwise fun p q => ∀ k ∈ p.Likes, k ∉ q.Likes

theorem idsE_ok {l : List T_face_Likeness} {ids : List Int} (h : IdsOk l ids) : idsE l ids = 0 := by
  unfold idsE
  refine firstE_all _ _ fun j _ hj => ?_
  have hj : j < ids.length := by omega
  unfold idsC
  rw [at_D0 hj, h.all _ (List.getElem_mem hj)]
  rw [if_neg (by simp), if_neg]
  rintro ⟨h0, h1⟩
  rw [at_D0 (show j - 1 < ids.length by omega)] at h1
  have := List.pairwise_iff_getElem.1 h.rise (j - 1) j (by omega) hj (by omega)
  omega

theorem personE_iff {l : List T_face_Likeness} {p : T_face_Person} : personE l p = 0 ↔ titleB p.Name = true ∧ IdsOk l p.Likes ∧ IdsOk l p.Nots ∧ ∀ k ∈ p.Likes, k ∉ p.Nots := by
  constructor
  · intro h
    have h2 := personE_ok h
    unfold personE at h
    cases ht : titleB p.Name with
    | false => rw [ht] at h; simp at h
    | true =>
      rw [ht, if_neg (by simp)] at h
      refine ⟨rfl, h2.1, h2.2, fun k hk hn => ?_⟩
      unfold listE at h
      rw [if_neg (by rw [idsE_ok h2.1]; simp), if_neg (by rw [idsE_ok h2.2]; simp)] at h
      have : both p = true := by
        unfold both
        rw [List.any_eq_true]
        exact ⟨k, hk, by simpa using hn⟩
      rw [if_pos this] at h
      cases h
  · rintro ⟨h1, h2, h3, h4⟩
    unfold personE listE
    rw [if_neg (by rw [h1]; simp), if_neg (by rw [idsE_ok h2]; simp), if_neg (by rw [idsE_ok h3]; simp), if_neg]
    intro hb
    unfold both at hb
    rw [List.any_eq_true] at hb
    obtain ⟨k, hk, hn⟩ := hb
    exact h4 k hk (by simpa using hn)

theorem inM_setAll (ks : List Int) : ∀ (m : List (Int × Bool)) (x : Int), inM (setAll m ks) x = (decide (x ∈ ks) || inM m x) := by
  induction ks with
  | nil => intro m x; simp [setAll]
  | cons k ks ih =>
    intro m x
    show inM (setAll (mSet m k true) ks) x = _
    rw [ih, inM_set]
    by_cases h1 : x = k
    · subst h1; simp
    · by_cases h2 : x ∈ ks <;> simp [h1, h2]

/-- CheckPeople tells whether people are right. -/
theorem check_right {l : List T_face_Likeness} (hg : Good l) (hc : face_Check l = some 0) (ps : List T_face_Person) (hsz : ∀ p ∈ ps, PSz p) (hn : ps.length ≤ 9223372036854775000) : ∃ e, face_CheckPeople l ps = some e ∧ (e = 0 ↔ Right l ps) := by
  unfold face_CheckPeople
  rw [hc, bnd_pure, decF (by simp), cnd_false]
  by_cases hl : 100 < ps.length
  · rw [decT (by omega), cnd_true]
    exact ⟨4, rfl, fun h => absurd h (by decide), fun h => by have := h.len; omega⟩
  rw [decF (by omega), cnd_false]
  refine fix_run (F := fun next1 s => face_CheckPeople_l1 l ps next1 s.1 s.2)
    (fun s : Int × List (Int × Bool) => ∃ k : Nat, s.1 = k ∧ k ≤ ps.length ∧ (∀ i (h : i < ps.length), i < k → PersonOk l ps[i]) ∧ (∀ i (h : i + 1 < ps.length), i + 1 < k → ps[i].Id < ps[i + 1].Id) ∧
      (∀ i j (hi : i < ps.length) (hj : j < ps.length), i < j → j < k → ∀ x ∈ ps[i].Likes, x ∉ ps[j].Likes) ∧ ∀ x, inM s.2 x = true ↔ ∃ i, ∃ h : i < ps.length, i < k ∧ x ∈ ps[i].Likes)
    (fun s => ps.length - s.1.toNat) (fun e => e = 0 ↔ Right l ps) ?_ (0, []) ⟨0, rfl, Nat.zero_le _, fun i _ h => by omega, fun i _ h => by omega, fun i j _ _ _ h => by omega, fun x => ⟨fun h => (by rw [inM_nil] at h; cases h), fun ⟨i, _, h, _⟩ => by omega⟩⟩
  rintro ⟨_, mp⟩ ⟨k, rfl, hk, hP, hR, hO, hM⟩
  simp only at hM
  simp only [face_CheckPeople_l1]
  rcases Nat.lt_or_ge k ps.length with h | h
  · have hz := hsz _ (List.getElem_mem h)
    by_cases hid : 1 ≤ ps[k].Id ∧ ps[k].Id ≤ 1000000
    · by_cases hord : 0 < k ∧ ∃ h' : k - 1 < ps.length, ps[k].Id ≤ ps[k - 1].Id
      · obtain ⟨h0, h', h1⟩ := hord
        refine .inl ⟨5, ⟨fun h => absurd h (by decide), fun hr => ?_⟩, fun next => ?_⟩
        · have := List.pairwise_iff_getElem.1 hr.rise (k - 1) k h' h (by omega)
          omega
        · rw [decT (by omega), cnd_true, gAt_nat h, bnd_pure, outside_eq, bnd_pure, decF (by omega), cnd_false, decT (by omega), cnd_true, gI_ok (by omega), bnd_pure, show (k : Int) - 1 = ((k - 1 : Nat) : Int) by omega, gAt_nat h', bnd_pure, decT h1, cnd_true]
      · have eC : ∀ next, (cnd (decide ((k : Int) < (ps.length : Int))) (bnd (gAt ps (k : Int)) fun t27 =>
            bnd (face_outside t27.Id 1 1000000) fun t31 =>
            cnd t31 (some 2) (cnd (decide (0 < (k : Int))) (bnd (gI ((k : Int) - 1)) fun t39 =>
            bnd (gAt ps t39) fun t40 =>
            cnd (decide (t27.Id ≤ t40.Id)) (some 5) (face_CheckPeople_j3 l (k : Int) mp next t27)) (face_CheckPeople_j3 l (k : Int) mp next t27))) (some 0)) = face_CheckPeople_j3 l (k : Int) mp next ps[k] := fun next => by
          rw [decT (by omega), cnd_true, gAt_nat h, bnd_pure, outside_eq, bnd_pure, decF (by omega), cnd_false]
          by_cases h0 : 0 < k
          · rw [decT (by omega), cnd_true, gI_ok (by omega), bnd_pure, show (k : Int) - 1 = ((k - 1 : Nat) : Int) by omega, gAt_nat (show k - 1 < ps.length by omega), bnd_pure, decF (fun h1 => hord ⟨h0, by omega, h1⟩), cnd_false]
          · rw [decF (by omega), cnd_false]
        by_cases hpe : personE l ps[k] = 0
        · have hpi := personE_iff.1 hpe
          by_cases ht : twice l mp ps[k].Likes
          · refine .inl ⟨6, ⟨fun h => absurd h (by decide), fun hr => ?_⟩, fun next => ?_⟩
            · rcases ht with ⟨x, hx, hm⟩ | ht
              · obtain ⟨i, hi, hik, hxi⟩ := (hM x).1 hm
                exact (List.pairwise_iff_getElem.1 hr.own i k hi h hik x hxi hx).elim
              · exact (ht (hr.all _ (List.getElem_mem h)).photos).elim
            · rw [eC]; exact ((check_twice hg ps[k] hz _ next mp).2 hpe).1 ht
          · have hnt : (∀ x ∈ ps[k].Likes, ¬ inM mp x = true) ∧ (photosL l ps[k].Likes).Nodup := ⟨fun x hx hm => ht (.inl ⟨x, hx, hm⟩), Classical.byContradiction fun hh => ht (.inr hh)⟩
            refine .inr ⟨((k : Int) + 1, setAll mp ps[k].Likes), ⟨k + 1, by simp, h, fun i hi hik => ?_, fun i hi hik => ?_, fun i j hi hj hij hjk => ?_, fun x => ?_⟩, by simp only; omega, fun next => ?_⟩
            · rcases Nat.lt_or_ge i k with h3 | h3
              · exact hP i hi h3
              · have : i = k := by omega
                subst this
                exact ⟨hid, hpi.1, hpi.2.1, hpi.2.2.1, hpi.2.2.2, hnt.2⟩
            · rcases Nat.lt_or_ge (i + 1) k with h3 | h3
              · exact hR i hi h3
              · have : k = i + 1 := by omega
                subst this
                rcases Int.lt_or_le ps[i].Id ps[i + 1].Id with h4 | h4
                · exact h4
                · exact absurd ⟨by omega, by omega, h4⟩ hord
            · rcases Nat.lt_or_ge j k with h3 | h3
              · exact hO i j hi hj hij h3
              · have : j = k := by omega
                subst this
                intro x hx hx2
                exact hnt.1 x hx2 ((hM x).2 ⟨i, hi, hij, hx⟩)
            · simp only
              rw [inM_setAll, Bool.or_eq_true, decide_eq_true_iff, hM]
              constructor
              · rintro (h3 | ⟨i, hi, hik, hx⟩)
                · exact ⟨k, h, by omega, h3⟩
                · exact ⟨i, hi, by omega, hx⟩
              · rintro ⟨i, hi, hik, hx⟩
                rcases Nat.lt_or_ge i k with h3 | h3
                · exact .inr ⟨i, hi, h3, hx⟩
                · have : i = k := by omega
                  subst this; exact .inl hx
            · rw [eC, ((check_twice hg ps[k] hz _ next mp).2 hpe).2 ht, gI_ok (by omega), bnd_pure]
        · refine .inl ⟨personE l ps[k], ⟨fun h => absurd h hpe, fun hr => absurd ?_ hpe⟩, fun next => ?_⟩
          · have := hr.all _ (List.getElem_mem h)
            exact personE_iff.2 ⟨this.title, this.likes, this.nots, this.apart⟩
          · rw [eC]; exact (check_twice hg ps[k] hz _ next mp).1 hpe
    · refine .inl ⟨2, ⟨fun h => absurd h (by decide), fun hr => absurd (hr.all _ (List.getElem_mem h)).idr hid⟩, fun next => ?_⟩
      rw [decT (by omega), cnd_true, gAt_nat h, bnd_pure, outside_eq, bnd_pure, decT (by omega), cnd_true]
  · have : k = ps.length := by omega
    subst this
    refine .inl ⟨0, ⟨fun _ => ⟨by omega, fun p hp => ?_, List.pairwise_iff_getElem.2 ?_, List.pairwise_iff_getElem.2 fun i j hi hj hij => hO i j hi hj hij hj⟩, fun _ => rfl⟩, fun next => ?_⟩
    · obtain ⟨j, hj, rfl⟩ := List.getElem_of_mem hp
      exact hP j hj hj
    · have step : ∀ d i (hi : i < ps.length) (hd : i + d + 1 < ps.length), ps[i].Id < ps[i + d + 1].Id := by
        intro d
        induction d with
        | zero => intro i hi hd; exact hR i hd hd
        | succ d ih =>
          intro i hi hd
          have h1 := ih i hi (by omega)
          have h2 : ps[i + d + 1].Id < ps[i + (d + 1) + 1].Id := hR (i + d + 1) hd hd
          omega
      intro i j hi hj hij
      have := step (j - i - 1) i hi (by omega)
      simpa [show i + (j - i - 1) + 1 = j by omega] using this
    · rw [decF (by omega), cnd_false]
end Go.M

/- What Confirm and Deny lean on, in plain Lean. Conditions: few elements. -/
namespace Go.M
open Go.Md Go.Pl
set_option linter.unusedVariables false

/-! ### lists with one more, and with one less -/
theorem cmpFrom_id : ∀ (l : List Int) (p : Int), (p :: l).Pairwise (fun x y => x < y) → cmpFrom p l = l
  | [], p, _ => rfl
  | y :: l, p, h => by
    have hp := List.pairwise_cons.1 h
    unfold cmpFrom
    rw [if_neg (fun e => by have := hp.1 y (by simp); omega), cmpFrom_id l y hp.2]
theorem cmpL_id (l : List Int) (h : l.Pairwise fun x y => x < y) : cmpL l = l := by
  cases l with
  | nil => rfl
  | cons p l => simp only [cmpL]; rw [cmpFrom_id l p h]

theorem sorted_lt {l : List Int} (h : l.Nodup) : (sorted l).Pairwise fun x y => x < y := by
  refine ((sorted_pw l).and ((sorted_perm l).nodup_iff.2 h)).imp fun {x y} ⟨h1, h2⟩ => ?_
  simp at h1
  omega
theorem lt_nodup {l : List Int} (h : l.Pairwise fun x y => x < y) : l.Nodup := h.imp fun {x y} h => by omega
theorem rise_unique {a b : List Int} (p : a.Perm b) (ha : a.Pairwise fun x y => x < y) (hb : b.Pairwise fun x y => x < y) : a = b :=
  sorted_unique (le := fun x y => decide (x ≤ y)) (fun x y h1 h2 => by simp at h1 h2; omega) p (ha.imp fun {x y} h => by simp; omega) (hb.imp fun {x y} h => by simp; omega) (fun x => by simp)
theorem sorted_id {l : List Int} (h : l.Pairwise fun x y => x < y) : sorted l = l := rise_unique (sorted_perm l) (sorted_lt (lt_nodup h)) h

theorem with_nodup (a b : List Int) (hl : a.length + b.length ≤ 35184372088832) (h : (a ++ b).Nodup) : face_with a b = some (sorted (a ++ b)) := by
  unfold face_with
  rw [concat_eq a b hl, bnd_pure]
  unfold gSortI
  rw [if_pos (by rw [List.length_append]; omega), bnd_pure]
  unfold gCmpI
  rw [if_pos (by rw [List.length_mergeSort, List.length_append]; omega), bnd_pure]
  show some (cmpL (sorted (a ++ b))) = _
  rw [cmpL_id _ (sorted_lt h)]
theorem with_nil (a : List Int) (hl : a.length ≤ 35184372088832) (h : a.Pairwise fun x y => x < y) : face_with a [] = some a := by
  rw [with_nodup a [] (by simpa using hl) (by simpa using lt_nodup h), List.append_nil, sorted_id h]

/-- With one more. -/
def plus (l : List Int) (x : Int) : List Int := sorted (l ++ [x])
theorem plus_mem {l : List Int} {x k : Int} : k ∈ plus l x ↔ k ∈ l ∨ k = x := by
  unfold plus
  rw [(sorted_perm _).mem_iff, List.mem_append, List.mem_singleton]
theorem plus_nodup {l : List Int} {x : Int} (h : l.Nodup) (hx : x ∉ l) : (l ++ [x]).Nodup := by
  rw [List.nodup_append]
  refine ⟨h, by simp, fun a ha b hb e => ?_⟩
  simp at hb; subst hb e; exact hx ha
theorem plus_rise {l : List Int} {x : Int} (h : l.Pairwise fun x y => x < y) (hx : x ∉ l) : (plus l x).Pairwise fun x y => x < y := sorted_lt (plus_nodup (lt_nodup h) hx)
theorem plus_len (l : List Int) (x : Int) : (plus l x).length = l.length + 1 := by unfold plus; rw [sorted_len]; simp
theorem with_plus (l : List Int) (x : Int) (hl : l.length ≤ 17592186044000) (h : l.Pairwise fun x y => x < y) (hx : x ∉ l) : face_with l [x] = some (plus l x) :=
  with_nodup l [x] (by simp; omega) (plus_nodup (lt_nodup h) hx)

theorem delete_eq (a : List Int) (f : Int → Option Bool) (g : Int → Bool) (hl : a.length ≤ 17592186044010) (hf : ∀ x ∈ a, f x = some (g x)) : slices_DeleteFunc_int a f = some (a.filter fun x => !g x) := by
  unfold slices_DeleteFunc_int
  rw [indexInt_eq a f g (by omega) hf, bnd_pure]
  unfold idx
  cases hi : a.findIdx? g with
  | none =>
    rw [List.findIdx?_eq_none_iff] at hi
    show cnd (decide ((-1 : Int) = -1)) (some a) _ = _
    rw [decT rfl, cnd_true, List.filter_eq_self.2 fun x hx => by simp [hi x hx]]
  | some k0 =>
    obtain ⟨hk0, hg0, hlt⟩ := List.findIdx?_eq_some_iff_getElem.1 hi
    simp only
    rw [decF (by omega), cnd_false, gI_ok (by omega), bnd_pure]
    have h0 : (a.take k0).filter (fun x => !g x) = a.take k0 := List.filter_eq_self.2 fun x hx => by
      obtain ⟨j, hj, hj2, rfl⟩ : ∃ (j : Nat) (hj : j < a.length), j < k0 ∧ a[j] = x := by
        obtain ⟨j, hj, rfl⟩ := List.getElem_of_mem hx
        simp only [List.length_take] at hj
        exact ⟨j, by omega, by omega, by rw [List.getElem_take]⟩
      have := hlt j hj2
      simpa using this
    have key := fix_run (F := fun next2 s => slices_DeleteFunc_int_l2 f next2 s.1 s.2.1 s.2.2)
      (fun s : Int × Int × List Int => ∃ (j : Nat) (M : List Int), s.1 = (((a.take j).filter fun x => !g x).length : Int) ∧ s.2.1 = (j : Int) ∧ j ≤ a.length ∧ s.2.2 = (a.take j).filter (fun x => !g x) ++ (M ++ a.drop j) ∧ ((a.take j).filter fun x => !g x).length + M.length = j ∧ 0 < M.length)
      (fun s => a.length - s.2.1.toNat) (fun r => r = a.filter fun x => !g x)
      (by
        rintro ⟨_, _, _⟩ ⟨j, M, rfl, rfl, hj, rfl, hFM, hM⟩
        generalize hF : (a.take j).filter (fun x => !g x) = Fl at *
        simp only [slices_DeleteFunc_int_l2, slices_DeleteFunc_int_j3]
        have hlen : (Fl ++ (M ++ a.drop j)).length = a.length := by simp; omega
        rcases Nat.lt_or_ge j a.length with h | h
        · have hd : a.drop j = a[j] :: a.drop (j + 1) := List.drop_eq_getElem_cons h
          have ht : (a.take (j + 1)).filter (fun x => !g x) = Fl ++ [a[j]].filter fun x => !g x := by rw [List.take_succ_eq_append_getElem h, List.filter_append, hF]
          have e1 : gAt (Fl ++ (M ++ a.drop j)) (j : Int) = some a[j] := by
            rw [hd, ← List.append_assoc]
            unfold gAt
            rw [if_pos (by omega), Int.toNat_natCast, List.getElem?_append_right (by rw [List.length_append]; omega), List.length_append, hFM, Nat.sub_self]; rfl
          have hfx := hf _ (List.getElem_mem h)
          cases hgx : g a[j] with
          | true =>
            refine .inr ⟨((Fl.length : Int), (j : Int) + 1, Fl ++ ((M ++ [a[j]]) ++ a.drop (j + 1))), ⟨j + 1, M ++ [a[j]], ?_, by simp, h, ?_, ?_, by simp⟩, by simp only; omega, fun next => ?_⟩
            · rw [ht]; simp [hgx]
            · rw [ht]; simp [hgx]
            · rw [ht]; simp [hgx]; omega
            · rw [decT (by rw [hlen]; omega), cnd_true, e1, bnd_pure, hfx, bnd_pure, hgx, Bool.not_true, cnd_false, gI_ok (by omega), bnd_pure, hd]
              simp
          | false =>
            match M, hM with
            | m0 :: M, _ =>
              refine .inr ⟨((Fl.length : Int) + 1, (j : Int) + 1, (Fl ++ [a[j]]) ++ ((M ++ [a[j]]) ++ a.drop (j + 1))), ⟨j + 1, M ++ [a[j]], ?_, by simp, h, ?_, ?_, by simp⟩, by simp only; omega, fun next => ?_⟩
              · rw [ht]; simp [hgx]
              · rw [ht]; simp [hgx]
              · rw [ht]; simp [hgx]; simp at hFM; omega
              · have e2 : ∃ z, gAt (Fl ++ (m0 :: M ++ a.drop j)) (Fl.length : Int) = some z := ⟨m0, by unfold gAt; rw [if_pos (by omega), Int.toNat_natCast, List.getElem?_append_right (Nat.le_refl _), Nat.sub_self]; rfl⟩
                have e3 : gSet (Fl ++ (m0 :: M ++ a.drop j)) (Fl.length : Int) a[j] = some ((Fl ++ [a[j]]) ++ ((M ++ [a[j]]) ++ a.drop (j + 1))) := by
                  rw [gSet_ok (by omega) (by rw [Int.toNat_natCast]; simp), Int.toNat_natCast, List.set_append_right _ _ (Nat.le_refl _), Nat.sub_self, hd]
                  simp
                obtain ⟨z, e2⟩ := e2
                rw [decT (by rw [hlen]; omega), cnd_true, e1, bnd_pure, hfx, bnd_pure, hgx, Bool.not_false, cnd_true, e2, bnd_pure, e3, bnd_pure, gI_ok (by omega), bnd_pure, gI_ok (by omega), bnd_pure]
        · have hj' : j = a.length := by omega
          subst hj'
          rw [List.take_length] at hF
          rw [List.drop_length, List.append_nil] at hlen ⊢
          refine .inl ⟨_, hF.symm, fun next => ?_⟩
          rw [decF (by rw [hlen]; omega), cnd_false]
          simp only [slices_DeleteFunc_int_j1]
          rw [gCut_ok (by rw [hlen]; omega), bnd_pure]
          have hc : (clrL (Fl ++ M) (Fl.length : Int) ((Fl ++ M).length : Nat) 0).length = (Fl ++ M).length := clrL_len (gCut_ok (by rw [List.length_append]; omega))
          rw [gCut_to (by rw [hc, List.length_append]; omega), bnd_pure]
          unfold clrL
          simp)
      ((k0 : Int), (k0 : Int) + 1, a) ⟨k0 + 1, [a[k0]], ?_, by simp, hk0, ?_, ?_, by simp⟩
    · obtain ⟨r, h1, rfl⟩ := key
      exact h1
    · rw [List.take_succ_eq_append_getElem hk0, List.filter_append, h0]; simp [hg0]; omega
    · rw [List.take_succ_eq_append_getElem hk0, List.filter_append, h0]
      simp [hg0]
    · rw [List.take_succ_eq_append_getElem hk0, List.filter_append, h0]; simp [hg0]; omega

/-- With one less. -/
def minus (l : List Int) (x : Int) : List Int := l.filter fun k => !decide (k = x)
theorem minus_not {l : List Int} {x : Int} (h : x ∉ l) : minus l x = l := List.filter_eq_self.2 fun k hk => by
  have : k ≠ x := fun e => h (e ▸ hk)
  simp [this]
theorem minus_plus {l : List Int} {x : Int} (h : l.Pairwise fun x y => x < y) (hx : x ∉ l) : minus (plus l x) x = l := by
  refine rise_unique ?_ ((plus_rise h hx).sublist List.filter_sublist) h
  have h1 : (minus (plus l x) x).Perm (minus (l ++ [x]) x) := (sorted_perm (l ++ [x])).filter _
  have h2 : minus (l ++ [x]) x = l := by
    unfold minus
    rw [List.filter_append]
    have := minus_not hx
    unfold minus at this
    rw [this]; simp
  rw [h2] at h1
  exact h1

/-! ### people -/
theorem copy_eq (ps : List T_face_Person) (hn : ps.length ≤ 100) (hsz : ∀ p ∈ ps, PSz p) (hr : ∀ p ∈ ps, (p.Likes.Pairwise fun x y => x < y) ∧ p.Nots.Pairwise fun x y => x < y) : face_copyPeople ps = some ps := by
  unfold face_copyPeople
  have key := fix_run (F := fun next2 s => face_copyPeople_l2 ps next2 s.1 s.2.1 s.2.2)
    (fun s : Int × Int × List T_face_Person => ∃ k : Nat, s.1 = (ps.length : Int) ∧ s.2.1 = (k : Int) ∧ k ≤ ps.length ∧ s.2.2 = ps.take k) (fun s => ps.length - s.2.1.toNat) (fun r => r = ps)
    (by
      rintro ⟨_, _, _⟩ ⟨k, rfl, rfl, hk, rfl⟩
      simp only [face_copyPeople_l2, face_copyPeople_j1]
      rcases Nat.lt_or_ge k ps.length with h | h
      · have hz := hsz _ (List.getElem_mem h)
        have hp := hr _ (List.getElem_mem h)
        refine .inr ⟨((ps.length : Int), (k : Int) + 1, ps.take (k + 1)), ⟨k + 1, rfl, by simp, h, rfl⟩, by simp only; omega, fun next => ?_⟩
        rw [decT (by omega), cnd_true, gAt_nat h, bnd_pure, with_nil _ (by have := hz.1; omega) hp.1, bnd_pure, with_nil _ (by have := hz.2; omega) hp.2, bnd_pure, gApp_ok (by simp; omega), bnd_pure, gI_ok (by omega), bnd_pure, List.take_succ_eq_append_getElem h]
      · have : k = ps.length := by omega
        subst this
        refine .inl ⟨ps, rfl, fun next => ?_⟩
        rw [decF (by omega), cnd_false, List.take_length])
    ((ps.length : Int), 0, []) ⟨0, rfl, rfl, Nat.zero_le _, rfl⟩
  obtain ⟨r, h1, rfl⟩ := key
  exact h1

theorem personAt_eq (ps : List T_face_Person) (hr : ps.Pairwise fun p q => p.Id < q.Id) (hl : ps.length ≤ 100) (n : Nat) (hn : n < ps.length) : face_personAt ps ps[n].Id = some ((n : Int), true) := by
  have hp := List.pairwise_iff_getElem.1 hr
  have hcmp : ∀ (p : T_face_Person) (b : Int), face_personAt_1 p b = some (cI p.Id b) := fun p b => by unfold face_personAt_1; rw [compare_eq, bnd_pure]
  obtain ⟨k, h1, h2, h3, h4⟩ := bin_loop (F := fun next2 s => slices_BinarySearchFunc_face_Person_int_l2 ps ps[n].Id face_personAt_1 next2 s.1 s.2) ps (fun x => decide (x.Id < ps[n].Id)) (fun i j hi hj hij h => by have := hp i j hi hj hij; simp at h ⊢; omega) (slices_BinarySearchFunc_face_Person_int_j1 ps ps[n].Id face_personAt_1)
    (fun next i j h hij hj => by
      obtain ⟨f1, f2⟩ := half (x := (i : Int) + j) (by omega)
      rw [show ((i : Int) + j) / 2 = (((i + j) / 2 : Nat) : Int) by omega] at f1 f2
      simp only [slices_BinarySearchFunc_face_Person_int_l2]
      rw [decT (by omega), cnd_true, gI_ok (by omega), bnd_pure, f1, bnd_pure, f2, gAt_nat h, bnd_pure, hcmp, bnd_pure]
      have hc := cI_lt ps[(i + j) / 2].Id ps[n].Id
      by_cases hlt : ps[(i + j) / 2].Id < ps[n].Id
      · rw [decT (hc.2 hlt), cnd_true, gI_ok (by omega), bnd_pure, if_pos (decide_eq_true hlt)]
      · rw [decF (fun h => hlt (hc.1 h)), cnd_false, if_neg (by simpa using hlt)])
    (fun next i hi => by
      simp only [slices_BinarySearchFunc_face_Person_int_l2]
      rw [decF (by omega), cnd_false])
  have hkn : k = n := by
    rcases Nat.lt_trichotomy k n with h | h | h
    · have := h3 k (by omega) (Nat.le_refl _)
      simp at this
      have := hp k n (by omega) hn h
      omega
    · exact h
    · have := h2 n hn h
      simp at this
  subst hkn
  unfold face_personAt slices_BinarySearchFunc_face_Person_int
  rw [h4]
  unfold slices_BinarySearchFunc_face_Person_int_j1
  rw [decT (by omega), cnd_true, gAt_nat hn, bnd_pure, hcmp, bnd_pure, bnd_pure, decT ((cI_0 _ _).2 rfl)]

theorem owner_is {ps : List T_face_Person} (hn : ps.length ≤ 100) (hsz : ∀ p ∈ ps, PSz p) (hr : ∀ p ∈ ps, p.Likes.Pairwise fun x y => x < y) (id : Int) : ∃ o, face_owner ps id = some o ∧ (0 ≤ o ↔ ∃ p ∈ ps, id ∈ p.Likes) := by
  refine ⟨idx (fun p => decide (id ∈ p.Likes)) ps, ?_, ?_⟩
  · unfold face_owner
    rw [indexPerson_eq ps (face_owner_1 id) (fun p => decide (id ∈ p.Likes)) (by omega) (fun p hp => by
      unfold face_owner_1
      rw [bcontains_eq _ _ (hr p hp) (by have := (hsz p hp).1; omega), bnd_pure]), bnd_pure]
  · have := idx_nn (fun p : T_face_Person => decide (id ∈ p.Likes)) ps
    have h2 : (0 ≤ idx (fun p : T_face_Person => decide (id ∈ p.Likes)) ps) ↔ (ps.any fun p => decide (id ∈ p.Likes)) = true := by rw [← this]; simp
    rw [h2, List.any_eq_true]
    simp

/-- Two stores into one element. -/
theorem set_two {ps : List T_face_Person} {n : Nat} (hn : n < ps.length) (x y : T_face_Person) : (ps.set n x).set n y = ps.set n y := List.set_set ..

structure Sz0 (p : T_face_Person) : Prop where
  likes : p.Likes.length ≤ 17592186043904
  nots : p.Nots.length ≤ 17592186043904
theorem Sz0.psz {p : T_face_Person} (h : Sz0 p) : PSz p := ⟨by have := h.likes; omega, by have := h.nots; omega⟩

/-- Right people, of whom one has other lists. -/
theorem right_set {l : List T_face_Likeness} {ps : List T_face_Person} (hr : Right l ps) (n : Nat) (hn : n < ps.length) (q : T_face_Person) (hid : q.Id = ps[n].Id) (hq : PersonOk l q) (ho : ∀ (i : Nat) (hi : i < ps.length), i ≠ n → ∀ k ∈ q.Likes, k ∉ ps[i].Likes) : Right l (ps.set n q) := by
  have get : ∀ (i : Nat) (hi : i < (ps.set n q).length), (i = n ∧ (ps.set n q)[i] = q) ∨ (i ≠ n ∧ ∃ h : i < ps.length, (ps.set n q)[i] = ps[i]) := fun i hi => by
    rw [List.getElem_set]
    by_cases h : n = i
    · exact .inl ⟨h.symm, if_pos h⟩
    · exact .inr ⟨fun e => h e.symm, by simpa using hi, if_neg h⟩
  have hrise := List.pairwise_iff_getElem.1 hr.rise
  have hown := List.pairwise_iff_getElem.1 hr.own
  refine ⟨by simpa using hr.len, fun p hp => ?_, List.pairwise_iff_getElem.2 fun i j hi hj hij => ?_, List.pairwise_iff_getElem.2 fun i j hi hj hij => ?_⟩
  · rcases List.mem_or_eq_of_mem_set hp with h | h
    · exact hr.all p h
    · subst h; exact hq
  · rcases get i hi with ⟨rfl, e1⟩ | ⟨h1, h1', e1⟩ <;> rcases get j hj with ⟨rfl, e2⟩ | ⟨h2, h2', e2⟩
    · omega
    · rw [e1, e2, hid]; exact hrise _ _ hn h2' hij
    · rw [e1, e2, hid]; exact hrise _ _ h1' hn hij
    · rw [e1, e2]; exact hrise _ _ h1' h2' hij
  · rcases get i hi with ⟨rfl, e1⟩ | ⟨h1, h1', e1⟩ <;> rcases get j hj with ⟨rfl, e2⟩ | ⟨h2, h2', e2⟩
    · omega
    · rw [e1, e2]; exact fun k hk => ho j h2' h2 k hk
    · rw [e1, e2]; exact fun k hk hk2 => ho i h1' h1 k hk2 hk
    · rw [e1, e2]; exact hown _ _ h1' h2' hij

section law
variable {l : List T_face_Likeness} (hg : Good l) (hc : face_Check l = some 0) {ps : List T_face_Person} (hr : Right l ps) {id : Int} (hid : l.any (has id) = true)
include hg hc

theorem check_of (h : Right l ps) (hsz : ∀ p ∈ ps, PSz p) : face_CheckPeople l ps = some 0 := by
  obtain ⟨e, h1, h2⟩ := check_right hg hc ps hsz (by have := h.len; omega)
  rw [h1, h2.2 h]

include hr hid
end law

theorem awake : Keep_awakeFace = some true := by
  have z0 : vecF (fun _ => 0) = 0 := by decide
  have z3 : vecF (ofL [3, 0, 0, 0, 0, 0, 0, 0, 0, 0, 0, 0]) = 0 := by decide
  unfold Keep_awakeFace face_Far
  rw [checkVecs_eq _ (by simp), bnd_pure]
  have hv : vecsF [fun _ => (0 : Int), ofL [3, 0, 0, 0, 0, 0, 0, 0, 0, 0, 0, 0]] = 0 := by
    unfold vecsF
    refine firstE_all _ _ fun j _ hj => ?_
    have hj : j < 2 := by simpa using hj
    match j, hj with
    | 0, _ => exact z0
    | 1, _ => exact z3
  rw [hv, decF (by simp), cnd_false, far_eq _ _ z0 z3, bnd_pure, bnd_pure, decT rfl, cnd_true]
  have : farV (fun _ => 0) (ofL [3, 0, 0, 0, 0, 0, 0, 0, 0, 0, 0, 0]) = 9 := by decide
  rw [this]; rfl


end Go.M

/- FaceSplits in plain Lean: rising lists, their unions and what is left of them; searches. Conditions: few elements. -/
namespace Go.M
open Go.Md Go.Pl
set_option linter.unusedVariables false

theorem rise_same : ∀ {a b : List Int}, a.Pairwise (fun x y => x < y) → b.Pairwise (fun x y => x < y) → (∀ k, k ∈ a ↔ k ∈ b) → a = b
  | [], [], _, _, _ => rfl
  | [], y :: b, _, _, h => absurd ((h y).2 (by simp)) (by simp)
  | x :: a, [], _, _, h => absurd ((h x).1 (by simp)) (by simp)
  | x :: a, y :: b, ha, hb, h => by
    have pa := List.pairwise_cons.1 ha
    have pb := List.pairwise_cons.1 hb
    have hxy : x = y := by
      rcases List.mem_cons.1 ((h x).1 (by simp)) with e | h1
      · exact e
      rcases List.mem_cons.1 ((h y).2 (by simp)) with e | h2
      · exact e.symm
      have := pa.1 y h2
      have := pb.1 x h1
      omega
    subst hxy
    congr 1
    refine rise_same pa.2 pb.2 fun k => ⟨fun hk => ?_, fun hk => ?_⟩
    · rcases List.mem_cons.1 ((h k).1 (by simp [hk])) with e | h1
      · have := pa.1 k hk; omega
      · exact h1
    · rcases List.mem_cons.1 ((h k).2 (by simp [hk])) with e | h1
      · have := pb.1 k hk; omega
      · exact h1

theorem rise_len : ∀ {b a : List Int}, a.Pairwise (fun x y => x < y) → b.Pairwise (fun x y => x < y) → (∀ k ∈ a, k ∈ b) → a.length ≤ b.length
  | [], a, _, _, h => by
    cases a with
    | nil => simp
    | cons x a => exact absurd (h x (by simp)) (by simp)
  | y :: b, [], _, _, _ => by simp
  | y :: b, x :: a, ha, hb, h => by
    have pa := List.pairwise_cons.1 ha
    have pb := List.pairwise_cons.1 hb
    rcases List.mem_cons.1 (h x (by simp)) with e | h1
    · subst e
      have := rise_len (a := a) pa.2 pb.2 fun k hk => by
        rcases List.mem_cons.1 (h k (by simp [hk])) with e | h1
        · have := pa.1 k hk; omega
        · exact h1
      simp; omega
    · have := rise_len (a := x :: a) ha pb.2 fun k hk => by
        rcases List.mem_cons.1 (h k hk) with e | h2
        · rcases List.mem_cons.1 hk with e2 | h3
          · subst e2; exact h1
          · have h4 := pa.1 k h3
            have h5 := pb.1 x h1
            omega
        · exact h2
      simp at this ⊢; omega

theorem cmpFrom_mem : ∀ (l : List Int) (p k : Int), k ∈ p :: cmpFrom p l ↔ k ∈ p :: l
  | [], p, k => by simp [cmpFrom]
  | y :: l, p, k => by
    unfold cmpFrom
    by_cases h : y = p
    · subst h
      rw [if_pos rfl, cmpFrom_mem l y k]; simp
    · rw [if_neg h, List.mem_cons, cmpFrom_mem l y k, List.mem_cons (l := y :: l)]
theorem cmpFrom_rise : ∀ (l : List Int) (p : Int), (p :: l).Pairwise (fun x y => x ≤ y) → (p :: cmpFrom p l).Pairwise fun x y => x < y
  | [], p, _ => by simp [cmpFrom]
  | y :: l, p, h => by
    have hp := List.pairwise_cons.1 h
    unfold cmpFrom
    by_cases e : y = p
    · subst e
      rw [if_pos rfl]
      exact cmpFrom_rise l y hp.2
    · rw [if_neg e]
      have ih := cmpFrom_rise l y hp.2
      refine List.pairwise_cons.2 ⟨fun k hk => ?_, ih⟩
      have h1 := hp.1 y (by simp)
      rcases List.mem_cons.1 hk with e2 | h2
      · subst e2; omega
      · have := (List.pairwise_cons.1 ih).1 k h2
        omega

/-- All that are in one of two. -/
def join (a b : List Int) : List Int := cmpL (sorted (a ++ b))
theorem join_mem {a b : List Int} {k : Int} : k ∈ join a b ↔ k ∈ a ∨ k ∈ b := by
  have : k ∈ join a b ↔ k ∈ sorted (a ++ b) := by
    unfold join
    cases sorted (a ++ b) with
    | nil => simp [cmpL]
    | cons p l => simp only [cmpL]; exact cmpFrom_mem l p k
  rw [this, (sorted_perm _).mem_iff, List.mem_append]
theorem join_rise (a b : List Int) : (join a b).Pairwise fun x y => x < y := by
  unfold join
  have h := sorted_pw (a ++ b)
  cases hs : sorted (a ++ b) with
  | nil => simp [cmpL]
  | cons p l =>
    rw [hs] at h
    simp only [cmpL]
    exact cmpFrom_rise l p (h.imp fun {x y} h => by simpa using h)
theorem with_join (a b : List Int) (hl : a.length + b.length ≤ 35184372088832) : face_with a b = some (join a b) := by
  unfold face_with
  rw [concat_eq a b hl, bnd_pure]
  unfold gSortI
  rw [if_pos (by rw [List.length_append]; omega), bnd_pure]
  unfold gCmpI
  rw [if_pos (by rw [List.length_mergeSort, List.length_append]; omega), bnd_pure]
  rfl

/-- Those of one that are not in the other. -/
def less (a b : List Int) : List Int := a.filter fun k => !decide (k ∈ b)
theorem less_mem {a b : List Int} {k : Int} : k ∈ less a b ↔ k ∈ a ∧ k ∉ b := by
  unfold less
  rw [List.mem_filter]; simp
theorem less_rise {a b : List Int} (h : a.Pairwise fun x y => x < y) : (less a b).Pairwise fun x y => x < y := h.sublist List.filter_sublist
theorem without_less (a b : List Int) (hl : a.length ≤ 17592186044010) (hb : b.length ≤ 9223372036854775000) : face_without a b = some (less a b) := by
  unfold face_without slices_Clone_int
  rw [gApp_ok (by simp; omega), bnd_pure, bnd_pure, List.nil_append, delete_eq a (face_without_1 b) (fun k => decide (k ∈ b)) hl (fun k _ => by
    unfold face_without_1
    rw [contains_eq _ _ hb, bnd_pure]), bnd_pure]
  rfl

theorem equal_ints (l : List Int) (hl : l.length ≤ 9223372036854775000) : slices_Equal_int l l = some true := by
  unfold slices_Equal_int
  rw [decF (by simp), cnd_false]
  have h := up (F := fun next1 s => slices_Equal_int_l1 l l next1 s) l.length (fun _ => some true) (fun next k hk ih => by
    simp only [slices_Equal_int_l1]
    rcases Nat.lt_or_ge k l.length with h | h
    · rw [decT (by omega), cnd_true, gAt_nat h, bnd_pure, bnd_pure, decF (by simp), cnd_false, gI_ok (by omega), bnd_pure, ih h]
    · rw [decF (by omega), cnd_false])
  exact h

/-- A search for a person that is not there. -/
theorem personAt_not (ps : List T_face_Person) (hr : ps.Pairwise fun p q => p.Id < q.Id) (hl : ps.length ≤ 100) (id : Int) (hn : ∀ p ∈ ps, p.Id ≠ id) : ∃ i, face_personAt ps id = some (i, false) := by
  have hp := List.pairwise_iff_getElem.1 hr
  have hcmp : ∀ (p : T_face_Person) (b : Int), face_personAt_1 p b = some (cI p.Id b) := fun p b => by unfold face_personAt_1; rw [compare_eq, bnd_pure]
  obtain ⟨k, h1, h2, h3, h4⟩ := bin_loop (F := fun next2 s => slices_BinarySearchFunc_face_Person_int_l2 ps id face_personAt_1 next2 s.1 s.2) ps (fun x => decide (x.Id < id)) (fun i j hi hj hij h => by have := hp i j hi hj hij; simp at h ⊢; omega) (slices_BinarySearchFunc_face_Person_int_j1 ps id face_personAt_1)
    (fun next i j h hij hj => by
      obtain ⟨f1, f2⟩ := half (x := (i : Int) + j) (by omega)
      rw [show ((i : Int) + j) / 2 = (((i + j) / 2 : Nat) : Int) by omega] at f1 f2
      simp only [slices_BinarySearchFunc_face_Person_int_l2]
      rw [decT (by omega), cnd_true, gI_ok (by omega), bnd_pure, f1, bnd_pure, f2, gAt_nat h, bnd_pure, hcmp, bnd_pure]
      have hc := cI_lt ps[(i + j) / 2].Id id
      by_cases hlt : ps[(i + j) / 2].Id < id
      · rw [decT (hc.2 hlt), cnd_true, gI_ok (by omega), bnd_pure, if_pos (decide_eq_true hlt)]
      · rw [decF (fun h => hlt (hc.1 h)), cnd_false, if_neg (by simpa using hlt)])
    (fun next i hi => by
      simp only [slices_BinarySearchFunc_face_Person_int_l2]
      rw [decF (by omega), cnd_false])
  unfold face_personAt slices_BinarySearchFunc_face_Person_int
  rw [h4]
  unfold slices_BinarySearchFunc_face_Person_int_j1
  rcases Nat.lt_or_ge k ps.length with h | h
  · rw [decT (by omega), cnd_true, gAt_nat h, bnd_pure, hcmp, bnd_pure, bnd_pure, decF (fun e => hn _ (List.getElem_mem h) ((cI_0 _ _).1 e))]
    exact ⟨_, rfl⟩
  · rw [decF (by omega), cnd_false, bnd_pure]
    exact ⟨_, rfl⟩

theorem personAt_any (ps : List T_face_Person) (hr : ps.Pairwise fun p q => p.Id < q.Id) (hl : ps.length ≤ 100) (id : Int) : (∃ (n : Nat) (hn : n < ps.length), ps[n].Id = id ∧ face_personAt ps id = some ((n : Int), true)) ∨ ∃ i, face_personAt ps id = some (i, false) := by
  by_cases h : ∀ p ∈ ps, p.Id ≠ id
  · exact .inr (personAt_not ps hr hl id h)
  · have : ∃ p ∈ ps, p.Id = id := by
      refine Classical.byContradiction fun h2 => h fun p hp e => h2 ⟨p, hp, e⟩
    obtain ⟨p, hp, e⟩ := this
    obtain ⟨n, hn, rfl⟩ := List.getElem_of_mem hp
    exact .inl ⟨n, hn, e, by rw [← e]; exact personAt_eq ps hr hl n hn⟩

/-! ### sizes -/
theorem has_mem {l : List T_face_Likeness} {k : Int} : l.any (has k) = true ↔ k ∈ l.map (fun x => x.Id) := by
  rw [List.any_eq_true, List.mem_map]
  constructor
  · rintro ⟨x, hx, h⟩; exact ⟨x, hx, by unfold has at h; simpa using h⟩
  · rintro ⟨x, hx, h⟩; exact ⟨x, hx, by unfold has; simpa using h⟩
theorem ids_len {l : List T_face_Likeness} (hg : Good l) {ids : List Int} (h : IdsOk l ids) : ids.length ≤ 300 := by
  have h2 : (l.map fun x => x.Id).Pairwise fun x y => x < y := by rw [List.pairwise_map]; exact hg.rise
  have := rise_len h.rise h2 fun k hk => has_mem.1 (h.all k hk)
  rw [List.length_map] at this
  have := hg.len
  omega
theorem right_sz {l : List T_face_Likeness} (hg : Good l) {ps : List T_face_Person} (hr : Right l ps) : ∀ p ∈ ps, p.Likes.length ≤ 300 ∧ p.Nots.length ≤ 300 := fun p hp => ⟨ids_len hg (hr.all p hp).likes, ids_len hg (hr.all p hp).nots⟩
theorem right_psz {l : List T_face_Likeness} (hg : Good l) {ps : List T_face_Person} (hr : Right l ps) : ∀ p ∈ ps, PSz p := fun p hp => by
  have := right_sz hg hr p hp
  exact ⟨by omega, by omega⟩
theorem right_rise {l : List T_face_Likeness} {ps : List T_face_Person} (hr : Right l ps) : ∀ p ∈ ps, (p.Likes.Pairwise fun x y => x < y) ∧ p.Nots.Pairwise fun x y => x < y := fun p hp => ⟨(hr.all p hp).likes.rise, (hr.all p hp).nots.rise⟩

/-! ### one more -/
theorem insL_nat {α : Type} (xs : List α) (i : Nat) (x : α) : insL xs (i : Int) x = xs.take i ++ ([x] ++ xs.drop i) := by unfold insL; rw [Int.toNat_natCast]
theorem ins_set {α : Type} (xs : List α) (i n : Nat) (x y : α) (hi : i ≤ xs.length) (hn : n < xs.length) : (insL xs (i : Int) x).set (if n < i then n else n + 1) y = insL (xs.set n y) (i : Int) x := by
  rw [insL_nat, insL_nat]
  by_cases h : n < i
  · rw [if_pos h, List.set_append_left _ _ (by rw [List.length_take]; omega), List.take_set, List.drop_set, if_pos h]
  · rw [if_neg h, List.set_append_right _ _ (by rw [List.length_take]; omega), List.length_take, Nat.min_eq_left hi, List.take_set, List.drop_set, if_neg h]
    have e : n + 1 - i = (n - i) + 1 := by omega
    rw [e, List.set_eq_of_length_le (l := xs.take i) (by rw [List.length_take]; omega)]
    rfl
theorem ins_get {α : Type} (xs : List α) (i n : Nat) (x : α) (hi : i ≤ xs.length) (hn : n < xs.length) : (insL xs (i : Int) x)[if n < i then n else n + 1]? = some xs[n] := by
  rw [insL_nat]
  by_cases h : n < i
  · rw [if_pos h, List.getElem?_append_left (by rw [List.length_take]; omega), List.getElem?_take, if_pos h, List.getElem?_eq_getElem hn]
  · rw [if_neg h, List.getElem?_append_right (by rw [List.length_take]; omega), List.length_take, Nat.min_eq_left hi, show n + 1 - i = (n - i) + 1 by omega]
    show (xs.drop i)[n - i]? = _
    rw [List.getElem?_drop, show i + (n - i) = n by omega, List.getElem?_eq_getElem hn]
theorem ins_new {α : Type} (xs : List α) (i : Nat) (x : α) (hi : i ≤ xs.length) : (insL xs (i : Int) x)[i]? = some x := by
  rw [insL_nat, List.getElem?_append_right (by rw [List.length_take]; omega), List.length_take, Nat.min_eq_left hi, Nat.sub_self]
  rfl
theorem ins_len {α : Type} (xs : List α) (i : Nat) (x : α) (hi : i ≤ xs.length) : (insL xs (i : Int) x).length = xs.length + 1 := by
  rw [insL_nat]; simp only [List.length_append, List.length_take, List.length_drop, List.length_cons, List.length_nil]; omega
theorem ins_mem {α : Type} {xs : List α} {i : Nat} {x y : α} (h : y ∈ insL xs (i : Int) x) : y = x ∨ y ∈ xs := by
  rw [insL_nat, List.mem_append, List.mem_append] at h
  rcases h with h | h | h
  · exact .inr (List.mem_of_mem_take h)
  · exact .inl (by simpa using h)
  · exact .inr (List.mem_of_mem_drop h)
theorem del_ins {α : Type} (xs : List α) (i : Nat) (x : α) (hi : i ≤ xs.length) : delL (insL xs (i : Int) x) (i : Int) ((i : Int) + 1) = xs := by
  unfold delL
  have h1 : (xs.take i).length = i := by rw [List.length_take]; omega
  rw [insL_nat, Int.toNat_natCast, show ((i : Int) + 1).toNat = i + 1 by omega, List.take_append_of_le_length (by omega), List.take_of_length_le (by omega), List.drop_append, h1, List.drop_of_length_le (by omega), List.nil_append]
  have : i + 1 - i = 1 := by omega
  rw [this]
  show xs.take i ++ xs.drop i = xs
  rw [List.take_append_drop]
end Go.M

/- FaceSplits in plain Lean: Sort leaves people right. Conditions: few elements. -/
namespace Go.M
open Go.Md Go.Pl
set_option linter.unusedVariables false

theorem indexLk_eq (l : List T_face_Likeness) (f : T_face_Likeness → Option Bool) (g : T_face_Likeness → Bool) (hl : l.length ≤ 9223372036854775000) (hf : ∀ x ∈ l, f x = some (g x)) : slices_IndexFunc_face_Likeness l f = some (idx g l) := indexFunc_of hl hf fun _ _ => rfl
theorem deleteL_eq (a : List T_face_Likeness) (f : T_face_Likeness → Option Bool) (g : T_face_Likeness → Bool) (hl : a.length ≤ 17592186044010) (hf : ∀ x ∈ a, f x = some (g x)) : slices_DeleteFunc_face_Likeness a f = some (a.filter fun x => !g x) := by
  unfold slices_DeleteFunc_face_Likeness
  rw [indexLk_eq a f g (by omega) hf, bnd_pure]
  unfold idx
  cases hi : a.findIdx? g with
  | none =>
    rw [List.findIdx?_eq_none_iff] at hi
    show cnd (decide ((-1 : Int) = -1)) (some a) _ = _
    rw [decT rfl, cnd_true, List.filter_eq_self.2 fun x hx => by simp [hi x hx]]
  | some k0 =>
    obtain ⟨hk0, hg0, hlt⟩ := List.findIdx?_eq_some_iff_getElem.1 hi
    simp only
    rw [decF (by omega), cnd_false, gI_ok (by omega), bnd_pure]
    have h0 : (a.take k0).filter (fun x => !g x) = a.take k0 := List.filter_eq_self.2 fun x hx => by
      obtain ⟨j, hj, hj2, rfl⟩ : ∃ (j : Nat) (hj : j < a.length), j < k0 ∧ a[j] = x := by
        obtain ⟨j, hj, rfl⟩ := List.getElem_of_mem hx
        simp only [List.length_take] at hj
        exact ⟨j, by omega, by omega, by rw [List.getElem_take]⟩
      have := hlt j hj2
      simpa using this
    have key := fix_run (F := fun next2 s => slices_DeleteFunc_face_Likeness_l2 f next2 s.1 s.2.1 s.2.2)
      (fun s : Int × Int × List T_face_Likeness => ∃ (j : Nat) (M : List T_face_Likeness), s.1 = (((a.take j).filter fun x => !g x).length : Int) ∧ s.2.1 = (j : Int) ∧ j ≤ a.length ∧ s.2.2 = (a.take j).filter (fun x => !g x) ++ (M ++ a.drop j) ∧ ((a.take j).filter fun x => !g x).length + M.length = j ∧ 0 < M.length)
      (fun s => a.length - s.2.1.toNat) (fun r => r = a.filter fun x => !g x)
      (by
        rintro ⟨_, _, _⟩ ⟨j, M, rfl, rfl, hj, rfl, hFM, hM⟩
        generalize hF : (a.take j).filter (fun x => !g x) = Fl at *
        simp only [slices_DeleteFunc_face_Likeness_l2, slices_DeleteFunc_face_Likeness_j3]
        have hlen : (Fl ++ (M ++ a.drop j)).length = a.length := by simp; omega
        rcases Nat.lt_or_ge j a.length with h | h
        · have hd : a.drop j = a[j] :: a.drop (j + 1) := List.drop_eq_getElem_cons h
          have ht : (a.take (j + 1)).filter (fun x => !g x) = Fl ++ [a[j]].filter fun x => !g x := by rw [List.take_succ_eq_append_getElem h, List.filter_append, hF]
          have e1 : gAt (Fl ++ (M ++ a.drop j)) (j : Int) = some a[j] := by
            rw [hd, ← List.append_assoc]
            unfold gAt
            rw [if_pos (by omega), Int.toNat_natCast, List.getElem?_append_right (by rw [List.length_append]; omega), List.length_append, hFM, Nat.sub_self]; rfl
          have hfx := hf _ (List.getElem_mem h)
          cases hgx : g a[j] with
          | true =>
            refine .inr ⟨((Fl.length : Int), (j : Int) + 1, Fl ++ ((M ++ [a[j]]) ++ a.drop (j + 1))), ⟨j + 1, M ++ [a[j]], ?_, by simp, h, ?_, ?_, by simp⟩, by simp only; omega, fun next => ?_⟩
            · rw [ht]; simp [hgx]
            · rw [ht]; simp [hgx]
            · rw [ht]; simp [hgx]; omega
            · rw [decT (by rw [hlen]; omega), cnd_true, e1, bnd_pure, hfx, bnd_pure, hgx, Bool.not_true, cnd_false, gI_ok (by omega), bnd_pure, hd]
              simp
          | false =>
            match M, hM with
            | m0 :: M, _ =>
              refine .inr ⟨((Fl.length : Int) + 1, (j : Int) + 1, (Fl ++ [a[j]]) ++ ((M ++ [a[j]]) ++ a.drop (j + 1))), ⟨j + 1, M ++ [a[j]], ?_, by simp, h, ?_, ?_, by simp⟩, by simp only; omega, fun next => ?_⟩
              · rw [ht]; simp [hgx]
              · rw [ht]; simp [hgx]
              · rw [ht]; simp [hgx]; simp at hFM; omega
              · have e2 : ∃ z, gAt (Fl ++ (m0 :: M ++ a.drop j)) (Fl.length : Int) = some z := ⟨m0, by unfold gAt; rw [if_pos (by omega), Int.toNat_natCast, List.getElem?_append_right (Nat.le_refl _), Nat.sub_self]; rfl⟩
                have e3 : gSet (Fl ++ (m0 :: M ++ a.drop j)) (Fl.length : Int) a[j] = some ((Fl ++ [a[j]]) ++ ((M ++ [a[j]]) ++ a.drop (j + 1))) := by
                  rw [gSet_ok (by omega) (by rw [Int.toNat_natCast]; simp), Int.toNat_natCast, List.set_append_right _ _ (Nat.le_refl _), Nat.sub_self, hd]
                  simp
                obtain ⟨z, e2⟩ := e2
                rw [decT (by rw [hlen]; omega), cnd_true, e1, bnd_pure, hfx, bnd_pure, hgx, Bool.not_false, cnd_true, e2, bnd_pure, e3, bnd_pure, gI_ok (by omega), bnd_pure, gI_ok (by omega), bnd_pure]
        · have hj' : j = a.length := by omega
          subst hj'
          rw [List.take_length] at hF
          rw [List.drop_length, List.append_nil] at hlen ⊢
          refine .inl ⟨_, hF.symm, fun next => ?_⟩
          rw [decF (by rw [hlen]; omega), cnd_false]
          simp only [slices_DeleteFunc_face_Likeness_j1]
          rw [gCut_ok (by rw [hlen]; omega), bnd_pure]
          have hc : (clrL (Fl ++ M) (Fl.length : Int) ((Fl ++ M).length : Nat) (⟨0, 0, (fun _ => 0)⟩ : T_face_Likeness)).length = (Fl ++ M).length := clrL_len (gCut_ok (by rw [List.length_append]; omega))
          rw [gCut_to (by rw [hc, List.length_append]; omega), bnd_pure]
          unfold clrL
          simp)
      ((k0 : Int), (k0 : Int) + 1, a) ⟨k0 + 1, [a[k0]], ?_, by simp, hk0, ?_, ?_, by simp⟩
    · obtain ⟨r, h1, rfl⟩ := key
      exact h1
    · rw [List.take_succ_eq_append_getElem hk0, List.filter_append, h0]; simp [hg0]; omega
    · rw [List.take_succ_eq_append_getElem hk0, List.filter_append, h0]
      simp [hg0]
    · rw [List.take_succ_eq_append_getElem hk0, List.filter_append, h0]; simp [hg0]; omega


/-- Those that nobody has. -/
theorem free_eq {l : List T_face_Likeness} (hg : Good l) {ps : List T_face_Person} (hr : Right l ps) : ∃ fs, face_free l ps = some fs ∧ fs.length ≤ 300 ∧ ∀ x ∈ fs, l.any (has x.Id) = true := by
  have hl := hg.len
  refine ⟨l.filter fun x => !decide (∃ p ∈ ps, x.Id ∈ p.Likes), ?_, Nat.le_trans (List.length_filter_le _ _) hl, fun x hx => has_mem.2 (List.mem_map.2 ⟨x, (List.mem_filter.1 hx).1, rfl⟩)⟩
  unfold face_free slices_Clone_face_Likeness
  rw [gApp_ok (by simp; omega), bnd_pure, bnd_pure, List.nil_append, deleteL_eq l (face_free_1 ps) (fun x => decide (∃ p ∈ ps, x.Id ∈ p.Likes)) (by omega) (fun x _ => by
    unfold face_free_1
    obtain ⟨o, ho, ho2⟩ := owner_is hr.len (right_psz hg hr) (fun p hp => (right_rise hr p hp).1) x.Id
    rw [ho, bnd_pure]
    congr 1
    rw [Bool.eq_iff_iff, decide_eq_true_iff, decide_eq_true_iff, ho2]), bnd_pure]

/-! ### the order of offers -/
theorem or_eq3 (p s u : Int) : cmp_Or_int [p, s, u] = some (if p = 0 then (if s = 0 then u else s) else p) := by
  unfold cmp_Or_int
  by_cases h : p = 0
  · subst h
    rw [fix_goto (b := (1 : Int)) (fun next => by simp [cmp_Or_int_l1, gAt, gI])]
    by_cases h2 : s = 0
    · subst h2
      rw [fix_goto (b := (2 : Int)) (fun next => by simp [cmp_Or_int_l1, gAt, gI])]
      by_cases h3 : u = 0
      · subst h3
        rw [fix_goto (b := (3 : Int)) (fun next => by simp [cmp_Or_int_l1, gAt, gI])]
        rw [fix_done (o := some 0) (fun next => by simp [cmp_Or_int_l1])]
        rfl
      · rw [fix_done (o := some u) (fun next => by simp [cmp_Or_int_l1, gAt, h3])]
        simp
    · rw [fix_done (o := some s) (fun next => by simp [cmp_Or_int_l1, gAt, h2])]
      simp [h2]
  · rw [fix_done (o := some p) (fun next => by simp [cmp_Or_int_l1, gAt, h])]
    simp [h]
def cO (x y : T_face_offer) : Int := if cI x.far_ y.far_ = 0 then (if cI x.id_ y.id_ = 0 then cI x.person_ y.person_ else cI x.id_ y.id_) else cI x.far_ y.far_
theorem cmpO_eq (x y : T_face_offer) : face_Sort_1 x y = some (cO x y) := by
  unfold face_Sort_1
  rw [compare_eq, bnd_pure, compare_eq, bnd_pure, compare_eq, bnd_pure, or_eq3, bnd_pure]; rfl
theorem cO_le (x y : T_face_offer) : cO x y ≤ 0 ↔ x.far_ < y.far_ ∨ x.far_ = y.far_ ∧ (x.id_ < y.id_ ∨ x.id_ = y.id_ ∧ x.person_ ≤ y.person_) := by
  unfold cO
  have h1 := cI_lt x.far_ y.far_
  have h2 := cI_gt x.far_ y.far_
  have h3 := cI_0 x.far_ y.far_
  have h4 := cI_lt x.id_ y.id_
  have h5 := cI_gt x.id_ y.id_
  have h6 := cI_0 x.id_ y.id_
  have h7 := cI_gt x.person_ y.person_
  split
  · split <;> omega
  · omega
theorem cO_0 (x y : T_face_offer) : cO x y = 0 ↔ x.far_ = y.far_ ∧ x.id_ = y.id_ ∧ x.person_ = y.person_ := by
  unfold cO
  have h3 := cI_0 x.far_ y.far_
  have h6 := cI_0 x.id_ y.id_
  have h8 := cI_0 x.person_ y.person_
  split
  · split <;> omega
  · omega
theorem cmpOkO : CmpOk face_Sort_1 where
  tot x y := ⟨_, cmpO_eq x y⟩
  flip x y := by
    rw [cmpO_eq, cmpO_eq]
    have h1 := cO_le x y
    have h2 := cO_le y x
    have h3 := cO_0 x y
    simp only [Option.getD_some]
    omega
  trans x y z := by
    rw [cmpO_eq, cmpO_eq, cmpO_eq]
    simp only [Option.getD_some]
    rw [cO_le, cO_le, cO_le]
    omega
  anti x y := by
    rw [cmpO_eq]
    simp only [Option.getD_some]
    rw [cO_0]
    rintro ⟨h1, h2, h3⟩
    cases x; cases y
    simp at h1 h2 h3
    subst h1 h2 h3; rfl

/-! ### Sort -/
structure OfferOk (l : List T_face_Likeness) (ps : List T_face_Person) (o : T_face_offer) : Prop where
  like : l.any (has o.id_) = true
  one : ∃ (n : Nat) (h : n < ps.length), o.person_ = ps[n].Id ∧ o.id_ ∉ ps[n].Nots

/-- What Sort may have made of people. -/
structure From (l : List T_face_Likeness) (ps out : List T_face_Person) : Prop where
  right : Right l out
  len : out.length = ps.length
  same : ∀ (n : Nat) (h : n < ps.length) (h' : n < out.length), out[n].Id = ps[n].Id ∧ out[n].Nots = ps[n].Nots

theorem give_right {l : List T_face_Likeness} {ps : List T_face_Person} (hr : Right l ps) {id : Int} (hid : l.any (has id) = true) (n : Nat) (hn : n < ps.length) (hno : ∀ p ∈ ps, id ∉ p.Likes) (hph : photoL l id ∉ photosL l ps[n].Likes) (hnot : id ∉ ps[n].Nots) :
    Right l (ps.set n ⟨ps[n].Id, ps[n].Name, plus ps[n].Likes id, ps[n].Nots⟩) := by
  have hok := hr.all _ (List.getElem_mem hn)
  have hl0 := hno _ (List.getElem_mem hn)
  have hother : ∀ (i : Nat) (hi : i < ps.length), i ≠ n → ∀ k ∈ ps[n].Likes, k ∉ ps[i].Likes := fun i hi hin k hk hk2 => by
    have ho := List.pairwise_iff_getElem.1 hr.own
    rcases Nat.lt_or_ge i n with h | h
    · exact ho i n hi hn h k hk2 hk
    · exact ho n i hn hi (by omega) k hk hk2
  have ok1 : PersonOk l ⟨ps[n].Id, ps[n].Name, plus ps[n].Likes id, ps[n].Nots⟩ := by
    refine ⟨hok.idr, hok.title, ⟨fun k hk => ?_, plus_rise hok.likes.rise hl0⟩, hok.nots, fun k hk => ?_, ?_⟩
    · rcases plus_mem.1 hk with h | h
      · exact hok.likes.all k h
      · subst h; exact hid
    · rcases plus_mem.1 hk with h | h
      · exact hok.apart k h
      · subst h; exact hnot
    · show ((plus ps[n].Likes id).map (photoL l)).Nodup
      have h1 : ((plus ps[n].Likes id).map (photoL l)).Perm ((ps[n].Likes ++ [id]).map (photoL l)) := (sorted_perm _).map _
      rw [h1.nodup_iff, List.map_append]
      exact plus_nodup hok.photos hph
  refine right_set hr n hn _ rfl ok1 fun i hi hin k hk => ?_
  rcases plus_mem.1 hk with h | h
  · exact hother i hi hin k h
  · subst h; exact hno _ (List.getElem_mem hi)

theorem sort_loop {l : List T_face_Likeness} (hg : Good l) {ps : List T_face_Person} (hr : Right l ps) (os : List T_face_offer) (hos : ∀ o ∈ os, OfferOk l ps o) (hlen : os.length ≤ 9223372036854775000) :
    ∃ r, fix (fun next2 s => face_Sort_l2 l os next2 s.1 s.2) (0, ps) = some r ∧ (r.2 = 0 ∧ Right l r.1) := by
  refine fix_run (F := fun next2 s => face_Sort_l2 l os next2 s.1 s.2) (fun s : Int × List T_face_Person => ∃ k : Nat, s.1 = k ∧ k ≤ os.length ∧ From l ps s.2) (fun s => os.length - s.1.toNat) (fun r => r.2 = 0 ∧ Right l r.1) ?_ (0, ps) ⟨0, rfl, Nat.zero_le _, hr, rfl, fun n h h' => ⟨rfl, rfl⟩⟩
  rintro ⟨_, out⟩ ⟨k, rfl, hk, hf⟩
  simp only [face_Sort_l2, face_Sort_j3]
  rcases Nat.lt_or_ge k os.length with h | h
  · obtain ⟨hlike, n, hn, hp, hnot⟩ := hos _ (List.getElem_mem h)
    simp only at hf
    have hn' : n < out.length := by rw [hf.len]; exact hn
    have hs := hf.same n hn hn'
    have hpa := personAt_eq out hf.right.rise hf.right.len n hn'
    rw [hs.1, ← hp] at hpa
    obtain ⟨o, ho, ho2⟩ := owner_is hf.right.len (right_psz hg hf.right) (fun p hp => (right_rise hf.right p hp).1) os[k].id_
    have hok := hf.right.all _ (List.getElem_mem hn')
    have hsz := right_sz hg hf.right _ (List.getElem_mem hn')
    by_cases c1 : o < 0
    · have hno : ∀ p ∈ out, os[k].id_ ∉ p.Likes := fun p hp hh => by have := ho2.2 ⟨p, hp, hh⟩; omega
      by_cases c2 : photoL l os[k].id_ ∈ photosL l out[n].Likes
      · refine .inr ⟨((k : Int) + 1, out), ⟨k + 1, by simp, h, hf⟩, by simp only; omega, fun next => ?_⟩
        rw [decT (by omega), cnd_true, gAt_nat h, bnd_pure, hpa, bnd_pure, ho, bnd_pure, decT c1, cnd_true, gAt_nat hn', bnd_pure, hasPhoto_eq hg _ _ (by omega) hlike hok.likes.all, bnd_pure, decT c2, Bool.not_true, cnd_false, gI_ok (by omega), bnd_pure]
      · have hr2 := give_right hf.right hlike n hn' hno c2 (by rw [hs.2]; exact hnot)
        refine .inr ⟨((k : Int) + 1, out.set n ⟨out[n].Id, out[n].Name, plus out[n].Likes os[k].id_, out[n].Nots⟩), ⟨k + 1, by simp, h, hr2, by simp only [List.length_set]; exact hf.len, fun i hi hi' => ?_⟩, by simp only; omega, fun next => ?_⟩
        · rw [List.getElem_set]
          by_cases e : n = i
          · subst e; simp only [if_pos]; exact hs
          · rw [if_neg e]; exact hf.same i hi (by simpa using hi')
        · rw [decT (by omega), cnd_true, gAt_nat h, bnd_pure, hpa, bnd_pure, ho, bnd_pure, decT c1, cnd_true, gAt_nat hn', bnd_pure, hasPhoto_eq hg _ _ (by omega) hlike hok.likes.all, bnd_pure, decF c2, Bool.not_false, cnd_true, bnd_pure, with_plus _ _ (by omega) hok.likes.rise (hno _ (List.getElem_mem hn')), bnd_pure, bnd_pure,
            gSet_ok (by omega) (by rw [Int.toNat_natCast]; exact hn'), bnd_pure, Int.toNat_natCast, gI_ok (by omega), bnd_pure]
    · refine .inr ⟨((k : Int) + 1, out), ⟨k + 1, by simp, h, hf⟩, by simp only; omega, fun next => ?_⟩
      rw [decT (by omega), cnd_true, gAt_nat h, bnd_pure, hpa, bnd_pure, ho, bnd_pure, decF c1, cnd_false, gI_ok (by omega), bnd_pure]
  · have : k = os.length := by omega
    subst this
    refine .inl ⟨(out, 0), ⟨rfl, hf.right⟩, fun next => ?_⟩
    rw [decF (by omega), cnd_false]

noncomputable def addO (lim : Int) (id : Int) (s : List T_face_offer) (m : T_face_Match) : List T_face_offer := if m.Far ≤ lim then s ++ [⟨id, m.Person, m.Far⟩] else s

theorem addO_all (lim id : Int) : ∀ (ms : List T_face_Match) (s : List T_face_offer), (ms.foldl (addO lim id) s).length ≤ s.length + ms.length ∧ ∀ o ∈ ms.foldl (addO lim id) s, o ∈ s ∨ ∃ m ∈ ms, o = ⟨id, m.Person, m.Far⟩
  | [], s => ⟨by simp, fun o ho => .inl ho⟩
  | m :: ms, s => by
    have ih := addO_all lim id ms (addO lim id s m)
    rw [List.foldl_cons]
    have hl : (addO lim id s m).length ≤ s.length + 1 := by unfold addO; split <;> simp
    refine ⟨by rw [List.length_cons]; omega, fun o ho => ?_⟩
    rcases ih.2 o ho with h | ⟨m', hm', h⟩
    · unfold addO at h
      split at h
      · rcases List.mem_append.1 h with h | h
        · exact .inl h
        · exact .inr ⟨m, by simp, by simpa using h⟩
      · exact .inl h
    · exact .inr ⟨m', by simp [hm'], h⟩

theorem offers_step {l : List T_face_Likeness} {ps : List T_face_Person} (hml : ∀ id, (matchL l ps id).length ≤ 100) (lim : Int) (x : T_face_Likeness) (hx : l.any (has x.Id) = true) (s : List T_face_offer) (hs : ∀ o ∈ s, OfferOk l ps o) :
    ((matchL l ps x.Id).foldl (addO lim x.Id) s).length ≤ s.length + 100 ∧ ∀ o ∈ (matchL l ps x.Id).foldl (addO lim x.Id) s, OfferOk l ps o := by
  have h := addO_all lim x.Id (matchL l ps x.Id) s
  have := hml x.Id
  refine ⟨by omega, fun o ho => ?_⟩
  rcases h.2 o ho with h1 | ⟨m, hm, rfl⟩
  · exact hs o h1
  · obtain ⟨p, hp, hcould, rfl⟩ := match_mem hm
    obtain ⟨n, hn, rfl⟩ := List.getElem_of_mem hp
    unfold could at hcould
    simp only [Bool.and_eq_true, decide_eq_true_iff, Bool.not_eq_true', decide_eq_false_iff_not] at hcould
    exact ⟨hx, n, hn, rfl, hcould.2.1⟩

theorem offers_all {l : List T_face_Likeness} {ps : List T_face_Person} (hml : ∀ id, (matchL l ps id).length ≤ 100) (lim : Int) : ∀ (fs : List T_face_Likeness) (s : List T_face_offer), (∀ x ∈ fs, l.any (has x.Id) = true) → (∀ o ∈ s, OfferOk l ps o) →
    (fs.foldl (fun s x => (matchL l ps x.Id).foldl (addO lim x.Id) s) s).length ≤ s.length + 100 * fs.length ∧ ∀ o ∈ fs.foldl (fun s x => (matchL l ps x.Id).foldl (addO lim x.Id) s) s, OfferOk l ps o
  | [], s, _, hs => ⟨by simp, hs⟩
  | x :: fs, s, hf, hs => by
    have h1 := offers_step hml lim x (hf x (by simp)) s hs
    have h2 := offers_all hml lim fs _ (fun y hy => hf y (by simp [hy])) h1.2
    rw [List.foldl_cons]
    refine ⟨?_, h2.2⟩
    rw [List.length_cons]
    omega

theorem offers_one (lim : Int) (x31 : Int) (next4 : Int × List T_face_offer → Option (List T_face_Person × Int)) (t33 : T_face_Likeness) (ms : List T_face_Match) (hm : ms.length ≤ 100) (s : List T_face_offer) (hs : s.length ≤ 1000000) :
    fix (fun next6 s => face_Sort_l6 lim x31 next4 t33 ms next6 s.1 s.2) (0, s) = face_Sort_j5 x31 next4 (ms.foldl (addO lim t33.Id) s) := by
  refine fix_list (F := fun next6 s => face_Sort_l6 lim x31 next4 t33 ms next6 s.1 s.2) ms (addO lim t33.Id) (face_Sort_j5 x31 next4) (fun k s' => s'.length ≤ s.length + k) (fun next k s' hk hs' => ?_) (fun next s' _ => ?_) s (by omega)
  · simp only [face_Sort_l6, face_Sort_j7]
    rw [decT (by omega), cnd_true, gAt_nat hk, bnd_pure]
    unfold addO
    by_cases c : ms[k].Far ≤ lim
    · rw [decT c, cnd_true, gApp_ok (by simp; omega), bnd_pure, gI_ok (by omega), bnd_pure, if_pos c]
      exact ⟨rfl, by simp; omega⟩
    · rw [decF c, cnd_false, gI_ok (by omega), bnd_pure, if_neg c]
      exact ⟨rfl, by omega⟩
  · simp only [face_Sort_l6]
    rw [decF (by omega), cnd_false]

theorem sort_right {l : List T_face_Likeness} (hg : Good l) (hc : face_Check l = some 0) {ps : List T_face_Person} (hr : Right l ps) (lim : Int) : ∃ r, face_Sort l ps lim = some r ∧ (r.2 = 0 → Right l r.1) := by
  unfold face_Sort
  rw [check_of hg hc hr (right_psz hg hr), bnd_pure, decF (by simp), cnd_false, outside_eq, bnd_pure]
  by_cases hlim : decide (lim < 0 ∨ 774192 < lim) = true
  · rw [hlim, cnd_true]
    exact ⟨_, rfl, fun h => absurd h (by decide)⟩
  rw [Bool.not_eq_true] at hlim
  rw [hlim, cnd_false]
  obtain ⟨fs, hfs, hfl, hfa⟩ := free_eq hg hr
  rw [hfs, bnd_pure]
  have hfids : ∀ p ∈ ps, IdsOk l p.Likes ∧ IdsOk l p.Nots := fun p hp => ⟨(hr.all p hp).likes, (hr.all p hp).nots⟩
  have hml : ∀ id, (matchL l ps id).length ≤ 100 := fun id => by
    unfold matchL
    rw [List.length_mergeSort, List.length_map]
    exact Nat.le_trans (List.length_filter_le _ _) hr.len
  have e := fix_list (F := fun next4 s => face_Sort_l4 l ps lim fs next4 s.1 s.2) fs (fun s x => (matchL l ps x.Id).foldl (addO lim x.Id) s) (face_Sort_j1 l ps) (fun k s => s.length ≤ 100 * k ∧ ∀ o ∈ s, OfferOk l ps o) (fun next k s hk hs => ?_) (fun next s _ => ?_) [] ⟨by simp, by simp⟩
  · rw [e]
    have hinv := offers_all hml lim fs [] hfa (by simp)
    rw [List.length_nil, Nat.zero_add] at hinv
    generalize fs.foldl (fun s x => (matchL l ps x.Id).foldl (addO lim x.Id) s) [] = os at hinv
    unfold face_Sort_j1 gSortF
    rw [if_pos ⟨by omega, cmpOkO⟩, bnd_pure, copy_eq ps hr.len (right_psz hg hr) (right_rise hr), bnd_pure]
    obtain ⟨r, h1, h2⟩ := sort_loop hg hr (os.mergeSort (leC face_Sort_1)) (fun o ho => hinv.2 o ((List.mergeSort_perm _ _).mem_iff.1 ho)) (by rw [List.length_mergeSort]; omega)
    exact ⟨r, h1, fun _ => h2.2⟩
  · obtain ⟨hs1, hs2⟩ := hs
    have hfa' := hfa _ (List.getElem_mem hk)
    have h1 := offers_step hml lim fs[k] hfa' s hs2
    refine ⟨?_, by omega, h1.2⟩
    simp only [face_Sort_l4]
    rw [decT (by omega), cnd_true, gAt_nat hk, bnd_pure, fmatches_eq hg hr.len hfids (right_psz hg hr) _ hfa', bnd_pure, offers_one lim (k : Int) next fs[k] _ (hml _) s (by omega)]
    unfold face_Sort_j5
    rw [gI_ok (by omega), bnd_pure]
  · simp only [face_Sort_l4]
    rw [decF (by omega), cnd_false]
end Go.M

/- FaceSplits in plain Lean: what Split makes, and what Merge makes of it. Conditions: few elements. -/
namespace Go.M
open Go.Md Go.Pl
set_option linter.unusedVariables false

/-! ### Split -/
theorem checkSplit_of {l : List T_face_Likeness} (hg : Good l) {ps : List T_face_Person} (hr : Right l ps) (person : Int) (ids : List Int) (name : List UInt8) (hids : ids.length ≤ 17592186044010) :
    ∃ t, face_checkSplit ps person ids name = some t ∧ (t.2 = 0 → ∃ (n : Nat) (hn : n < ps.length), t.1 = n ∧ ps[n].Id = person ∧ (∀ k ∈ ids, k ∈ ps[n].Likes) ∧ (ids.Pairwise fun x y => x < y) ∧ titleB name = true ∧ ps.length < 100) := by
  unfold face_checkSplit
  rcases personAt_any ps hr.rise hr.len person with ⟨n, hn, hid, h1⟩ | ⟨i, h1⟩
  · rw [h1, bnd_pure, Bool.not_true, cnd_false]
    have hok := hr.all _ (List.getElem_mem hn)
    have hsz := right_sz hg hr _ (List.getElem_mem hn)
    rw [containsFunc_eq ids (face_checkSplit_1 ps (n : Int)) (fun k => !decide (k ∈ ps[n].Likes)) (by omega) (fun k _ => by
      unfold face_checkSplit_1
      rw [gAt_nat hn, bnd_pure, bcontains_eq _ _ hok.likes.rise (by omega), bnd_pure]), bnd_pure]
    cases hany : ids.any fun k => !decide (k ∈ ps[n].Likes) with
    | true => exact ⟨_, rfl, fun h => absurd h (by decide)⟩
    | false =>
      rw [cnd_false]
      have hsub : ∀ k ∈ ids, k ∈ ps[n].Likes := fun k hk => by
        have := List.any_eq_false.1 hany k hk
        simpa using this
      refine fix_run (F := fun next2 s => face_checkSplit_l2 ps ids name ((n : Int), true) next2 s) (fun x : Int => ∃ k : Nat, x = k ∧ 1 ≤ k ∧ k ≤ ids.length + 1 ∧ ∀ i (h : i + 1 < ids.length), i + 1 < k → ids[i] < ids[i + 1]) (fun x => ids.length + 1 - x.toNat) (fun t => t.2 = 0 → ∃ (n : Nat) (hn : n < ps.length), t.1 = n ∧ ps[n].Id = person ∧ (∀ k ∈ ids, k ∈ ps[n].Likes) ∧ (ids.Pairwise fun x y => x < y) ∧ titleB name = true ∧ ps.length < 100) ?_ 1 ⟨1, rfl, by omega, by omega, fun i _ h => by omega⟩
      rintro _ ⟨k, rfl, hk1, hk, hup⟩
      simp only [face_checkSplit_l2]
      rcases Nat.lt_or_ge k ids.length with h | h
      · by_cases c : ids[k] ≤ ids[k - 1]
        · refine .inl ⟨(0, 5), fun h => absurd h (by decide), fun next => ?_⟩
          rw [decT (by omega), cnd_true, gAt_nat h, bnd_pure, gI_ok (by omega), bnd_pure, show (k : Int) - 1 = ((k - 1 : Nat) : Int) by omega, gAt_nat (show k - 1 < ids.length by omega), bnd_pure, decT c, cnd_true]
        · refine .inr ⟨(k : Int) + 1, ⟨k + 1, by simp, by omega, by omega, fun i hi hik => ?_⟩, by omega, fun next => ?_⟩
          · rcases Nat.lt_or_ge (i + 1) k with h2 | h2
            · exact hup i hi h2
            · have : k = i + 1 := by omega
              subst this
              have : ids[i + 1 - 1] = ids[i] := by congr 1
              omega
          · rw [decT (by omega), cnd_true, gAt_nat h, bnd_pure, gI_ok (by omega), bnd_pure, show (k : Int) - 1 = ((k - 1 : Nat) : Int) by omega, gAt_nat (show k - 1 < ids.length by omega), bnd_pure, decF c, cnd_false, gI_ok (by omega), bnd_pure]
      · have hrise : ids.Pairwise fun x y => x < y := by
          have step : ∀ d i (hi : i < ids.length) (hd : i + d + 1 < ids.length), ids[i] < ids[i + d + 1] := by
            intro d
            induction d with
            | zero => intro i hi hd; exact hup i hd (by omega)
            | succ d ih =>
              intro i hi hd
              have h1 := ih i hi (by omega)
              have h2 : ids[i + d + 1] < ids[i + (d + 1) + 1] := hup (i + d + 1) hd (by omega)
              omega
          refine List.pairwise_iff_getElem.2 fun i j hi hj hij => ?_
          have := step (j - i - 1) i hi (by omega)
          simpa [show i + (j - i - 1) + 1 = j by omega] using this
        have hstop : ∀ next : Int → Option (Int × Int), (cnd (decide ((k : Int) < (ids.length : Int))) (bnd (gAt ids (k : Int)) fun t33 => bnd (gI ((k : Int) - 1)) fun t37 => bnd (gAt ids t37) fun t38 => cnd (decide (t33 ≤ t38)) (some (0, 5)) (bnd (gI ((k : Int) + 1)) fun t30 => next t30)) (face_checkSplit_j1 ps ids name ((n : Int), true))) = face_checkSplit_j1 ps ids name ((n : Int), true) := fun next => by
          rw [decF (by omega), cnd_false]
        suffices hs : ∃ t, face_checkSplit_j1 ps ids name ((n : Int), true) = some t ∧ (t.2 = 0 → ∃ (n : Nat) (hn : n < ps.length), t.1 = n ∧ ps[n].Id = person ∧ (∀ k ∈ ids, k ∈ ps[n].Likes) ∧ (ids.Pairwise fun x y => x < y) ∧ titleB name = true ∧ ps.length < 100) by
          obtain ⟨t, ht, hp⟩ := hs
          exact .inl ⟨t, hp, fun next => (hstop next).trans ht⟩
        unfold face_checkSplit_j1
        by_cases c1 : (ids.length : Int) = 0
        · rw [decT c1, cnd_true]; exact ⟨_, rfl, fun h => absurd h (by decide)⟩
        rw [decF c1, cnd_false, gAt_nat hn, bnd_pure]
        by_cases c2 : (ids.length : Int) = (ps[n].Likes.length : Int)
        · rw [decT c2, cnd_true]; exact ⟨_, rfl, fun h => absurd h (by decide)⟩
        rw [decF c2, cnd_false, isTitle_eq, bnd_pure]
        cases c3 : titleB name with
        | false => rw [Bool.not_false, cnd_true]; exact ⟨_, rfl, fun h => absurd h (by decide)⟩
        | true =>
          rw [Bool.not_true, cnd_false]
          by_cases c4 : (100 : Int) ≤ (ps.length : Int)
          · rw [decT c4, cnd_true]; exact ⟨_, rfl, fun h => absurd h (by decide)⟩
          · rw [decF c4, cnd_false]
            exact ⟨_, rfl, fun _ => ⟨n, hn, rfl, hid, hsub, hrise, rfl, by omega⟩⟩
  · rw [h1, bnd_pure, Bool.not_false, cnd_true]
    exact ⟨_, rfl, fun h => absurd h (by decide)⟩

/-- Who stays, and who is new. -/
def rest (p : T_face_Person) (ids : List Int) : T_face_Person := ⟨p.Id, p.Name, less p.Likes ids, join p.Nots ids⟩
def part (p : T_face_Person) (ids : List Int) (name : List UInt8) (i : Nat) : T_face_Person := ⟨(i : Int) + 1, name, ids, join p.Nots (less p.Likes ids)⟩

structure Parted (ps : List T_face_Person) (person : Int) (ids : List Int) (name : List UInt8) (q : List T_face_Person) (n i : Nat) (hn : n < ps.length) : Prop where
  id : ps[n].Id = person
  sub : ∀ k ∈ ids, k ∈ ps[n].Likes
  rise : ids.Pairwise fun x y => x < y
  title : titleB name = true
  few : ps.length < 100
  le : i ≤ ps.length
  below : ∀ (j : Nat) (h : j < ps.length), j < i → ps[j].Id < (i : Int) + 1
  above : ∀ (j : Nat) (h : j < ps.length), i ≤ j → (i : Int) + 1 < ps[j].Id
  eq : q = insL (ps.set n (rest ps[n] ids)) (i : Int) (part ps[n] ids name i)

theorem split_of {l : List T_face_Likeness} (hg : Good l) (hc : face_Check l = some 0) {ps : List T_face_Person} (hr : Right l ps) (person : Int) (ids : List Int) (name : List UInt8) (hids : ids.length ≤ 17592186044000) :
    ∃ t, face_Split l ps person ids name = some t ∧ (t.2 = 0 → ∃ (n i : Nat) (hn : n < ps.length), Parted ps person ids name t.1 n i hn) := by
  unfold face_Split
  rw [check_of hg hc hr (right_psz hg hr), bnd_pure, decF (by simp), cnd_false]
  obtain ⟨t, ht, htp⟩ := checkSplit_of hg hr person ids name (by omega)
  rw [ht, bnd_pure]
  by_cases h0 : t.2 = 0
  · rw [decF (by simpa using h0), cnd_false, copy_eq ps hr.len (right_psz hg hr) (right_rise hr), bnd_pure]
    obtain ⟨n, hn, h1, hid, hsub, hrise, htitle, hfew⟩ := htp h0
    have hok := hr.all _ (List.getElem_mem hn)
    have hsz := right_sz hg hr _ (List.getElem_mem hn)
    have hi3 : ids.length ≤ 300 := by have := rise_len hrise hok.likes.rise hsub; omega
    have hless : (less ps[n].Likes ids).length ≤ 300 := by have := List.length_filter_le (fun k => !decide (k ∈ ids)) ps[n].Likes; unfold less; omega
    rw [h1, gAt_nat hn, bnd_pure, without_less _ _ (by omega) (by omega), bnd_pure, gSet_ok (by omega) (by rw [Int.toNat_natCast]; exact hn), bnd_pure, Int.toNat_natCast, with_nil ids (by omega) hrise, bnd_pure]
    have hn2 : ∀ x : T_face_Person, n < (ps.set n x).length := fun x => by simpa using hn
    rw [gAt_nat (hn2 _), bnd_pure, bnd_pure, List.getElem_set_self, with_join _ _ (by simp only; omega), bnd_pure, bnd_pure, with_join _ _ (by simp only; omega), bnd_pure, bnd_pure, gSet_ok (by omega) (by rw [Int.toNat_natCast]; exact hn2 _), bnd_pure, Int.toNat_natCast, List.set_set]
    show ∃ t, fix (fun next2 s => face_Split_l2 name ids (join ps[n].Nots (less ps[n].Likes ids)) (ps.set n (rest ps[n] ids)) next2 s.1 s.2) (0, 1) = some t ∧ _
    have hrs := List.pairwise_iff_getElem.1 hr.rise
    have hidq : ∀ (j : Nat) (h : j < ps.length), (ps.set n (rest ps[n] ids))[j]'(by simpa using h) = (if n = j then rest ps[n] ids else ps[j]) := fun j h => by rw [List.getElem_set]
    have hidj : ∀ (j : Nat) (h : j < ps.length), ((ps.set n (rest ps[n] ids))[j]'(by simpa using h)).Id = ps[j].Id := fun j h => by
      rw [hidq j h]
      split
      · rename_i e; subst e; rfl
      · rfl
    refine fix_run (F := fun next2 s => face_Split_l2 name ids (join ps[n].Nots (less ps[n].Likes ids)) (ps.set n (rest ps[n] ids)) next2 s.1 s.2) (fun s : Int × Int => ∃ i : Nat, s.1 = i ∧ s.2 = (i : Int) + 1 ∧ i ≤ ps.length ∧ ∀ (j : Nat) (h : j < ps.length), j < i → ps[j].Id = (j : Int) + 1) (fun s => ps.length - s.1.toNat)
      (fun t => t.2 = 0 → ∃ (n i : Nat) (hn : n < ps.length), Parted ps person ids name t.1 n i hn) ?_ (0, 1) ⟨0, rfl, rfl, Nat.zero_le _, fun j _ h => by omega⟩
    rintro ⟨_, _⟩ ⟨i, rfl, rfl, hi, hlow⟩
    simp only [face_Split_l2]
    have hlen : (ps.set n (rest ps[n] ids)).length = ps.length := by simp
    have hbelow : ∀ (j : Nat) (h : j < ps.length), j < i → ps[j].Id < (i : Int) + 1 := fun j h hj => by have := hlow j h hj; omega
    have hj1 : gInsN 72 (ps.set n (rest ps[n] ids)) (i : Int) (⟨(i : Int) + 1, name, ids, join ps[n].Nots (less ps[n].Likes ids)⟩ : T_face_Person) = some (insL (ps.set n (rest ps[n] ids)) (i : Int) (part ps[n] ids name i)) := gInsN_ok (by rw [hlen]; omega)
    rcases Nat.lt_or_ge i ps.length with h | h
    · by_cases c : ps[i].Id = (i : Int) + 1
      · refine .inr ⟨((i : Int) + 1, (i : Int) + 1 + 1), ⟨i + 1, by simp, by simp, h, fun j hj hji => ?_⟩, by simp only; omega, fun next => ?_⟩
        · rcases Nat.lt_or_ge j i with h2 | h2
          · exact hlow j hj h2
          · have : j = i := by omega
            subst this; exact c
        · rw [decT (by rw [hlen]; omega), cnd_true, gAt_nat (show i < (ps.set n (rest ps[n] ids)).length by rw [hlen]; exact h), bnd_pure, decT (by rw [hidj i h]; exact c), cnd_true, gI_ok (by omega), bnd_pure, gI_ok (by omega), bnd_pure]
      · have hab : ∀ (j : Nat) (h : j < ps.length), i ≤ j → (i : Int) + 1 < ps[j].Id := fun j hj hij => by
          have h1 : (i : Int) + 1 < ps[i].Id := by
            have h3 := (hr.all _ (List.getElem_mem h)).idr.1
            rcases Nat.eq_zero_or_pos i with h0 | h0
            · subst h0; simp at c ⊢; omega
            · have h4 := hrs (i - 1) i (by omega) h (by omega)
              have h5 := hlow (i - 1) (by omega) (by omega)
              omega
          rcases Nat.lt_or_ge i j with h2 | h2
          · have := hrs i j h hj h2; omega
          · have : j = i := by omega
            subst this; exact h1
        refine .inl ⟨(insL (ps.set n (rest ps[n] ids)) (i : Int) (part ps[n] ids name i), 0), fun _ => ⟨n, i, hn, hid, hsub, hrise, htitle, hfew, hi, hbelow, hab, rfl⟩, fun next => ?_⟩
        rw [decT (by rw [hlen]; omega), cnd_true, gAt_nat (show i < (ps.set n (rest ps[n] ids)).length by rw [hlen]; exact h), bnd_pure, decF (by rw [hidj i h]; exact c), cnd_false]
        unfold face_Split_j1
        rw [hj1, bnd_pure]
    · refine .inl ⟨(insL (ps.set n (rest ps[n] ids)) (i : Int) (part ps[n] ids name i), 0), fun _ => ⟨n, i, hn, hid, hsub, hrise, htitle, hfew, hi, hbelow, fun j hj hij => by omega, rfl⟩, fun next => ?_⟩
      rw [decF (by rw [hlen]; omega), cnd_false]
      unfold face_Split_j1
      rw [hj1, bnd_pure]
  · rw [decT h0, cnd_true]
    exact ⟨_, rfl, fun h => absurd h h0⟩
end Go.M

/- FaceSplits in plain Lean: what is split is right; merged again it is as before; the law. Conditions: few elements. -/
namespace Go.M
open Go.Md Go.Pl
set_option linter.unusedVariables false

theorem right_ins {l : List T_face_Likeness} {xs : List T_face_Person} (hr : Right l xs) (hf : xs.length < 100) (i : Nat) (hi : i ≤ xs.length) {b : T_face_Person} (hb : PersonOk l b) (h1 : ∀ (j : Nat) (h : j < xs.length), j < i → xs[j].Id < b.Id) (h2 : ∀ (j : Nat) (h : j < xs.length), i ≤ j → b.Id < xs[j].Id) (ho : ∀ p ∈ xs, ∀ k ∈ b.Likes, k ∉ p.Likes) :
    Right l (insL xs (i : Int) b) := by
  have hmt : ∀ p ∈ xs.take i, p ∈ xs ∧ p.Id < b.Id := fun p hp => by
    obtain ⟨j, hj, rfl⟩ := List.getElem_of_mem hp
    rw [List.length_take] at hj
    rw [List.getElem_take]
    exact ⟨List.getElem_mem _, h1 j (by omega) (by omega)⟩
  have hmd : ∀ p ∈ xs.drop i, p ∈ xs ∧ b.Id < p.Id := fun p hp => by
    obtain ⟨j, hj, rfl⟩ := List.getElem_of_mem hp
    rw [List.length_drop] at hj
    rw [List.getElem_drop]
    exact ⟨List.getElem_mem _, h2 (i + j) (by omega) (by omega)⟩
  have hsplit : xs = xs.take i ++ xs.drop i := (List.take_append_drop i xs).symm
  have hrise := hr.rise
  have hown := hr.own
  rw [hsplit, List.pairwise_append] at hrise hown
  refine ⟨by rw [ins_len xs i b hi]; omega, fun p hp => ?_, ?_, ?_⟩
  · rcases ins_mem hp with h | h
    · rw [h]; exact hb
    · exact hr.all p h
  · rw [insL_nat, List.pairwise_append, List.singleton_append, List.pairwise_cons]
    refine ⟨hrise.1, ⟨fun p hp => (hmd p hp).2, hrise.2.1⟩, fun p hp q hq => ?_⟩
    rcases List.mem_cons.1 hq with h | h
    · rw [h]; exact (hmt p hp).2
    · exact hrise.2.2 p hp q h
  · rw [insL_nat, List.pairwise_append, List.singleton_append, List.pairwise_cons]
    refine ⟨hown.1, ⟨fun p hp => ho p (hmd p hp).1, hown.2.1⟩, fun p hp q hq => ?_⟩
    rcases List.mem_cons.1 hq with h | h
    · rw [h]; exact fun k hk hk2 => ho p (hmt p hp).1 k hk2 hk
    · exact hown.2.2 p hp q h

theorem nodup_inj {α β : Type} {f : α → β} : ∀ {l : List α}, (l.map f).Nodup → ∀ x ∈ l, ∀ y ∈ l, f x = f y → x = y
  | [], _, x, hx, _, _, _ => absurd hx (by simp)
  | a :: l, h, x, hx, y, hy, e => by
    rw [List.map_cons, List.nodup_cons] at h
    rcases List.mem_cons.1 hx with h1 | h1 <;> rcases List.mem_cons.1 hy with h2 | h2
    · rw [h1, h2]
    · subst h1; exact absurd (List.mem_map.2 ⟨y, h2, e.symm⟩) h.1
    · subst h2; exact absurd (List.mem_map.2 ⟨x, h1, e⟩) h.1
    · exact nodup_inj h.2 x h1 y h2 e

theorem apart_of {l : List T_face_Likeness} {ps : List T_face_Person} (hr : Right l ps) {n : Nat} (hn : n < ps.length) (j : Nat) (hj : j < ps.length) (hne : j ≠ n) : ∀ k ∈ ps[n].Likes, k ∉ ps[j].Likes := fun k hk hk2 => by
  have ho := List.pairwise_iff_getElem.1 hr.own
  rcases Nat.lt_or_ge j n with h | h
  · exact ho j n hj hn h k hk2 hk
  · exact ho n j hn hj (by omega) k hk hk2

section parted
variable {l : List T_face_Likeness} (hg : Good l) {ps : List T_face_Person} (hr : Right l ps) {person : Int} {ids : List Int} {name : List UInt8} {q : List T_face_Person} {n i : Nat} {hn : n < ps.length} (hp : Parted ps person ids name q n i hn)
include hr hp

theorem rest_ok : PersonOk l (rest ps[n] ids) := by
  have hok := hr.all _ (List.getElem_mem hn)
  refine ⟨hok.idr, hok.title, ⟨fun k hk => hok.likes.all k (less_mem.1 hk).1, less_rise hok.likes.rise⟩, ⟨fun k hk => ?_, join_rise _ _⟩, fun k hk hk2 => ?_, ?_⟩
  · rcases join_mem.1 hk with h | h
    · exact hok.nots.all k h
    · exact hok.likes.all k (hp.sub k h)
  · have h1 := less_mem.1 hk
    rcases join_mem.1 hk2 with h | h
    · exact hok.apart k h1.1 h
    · exact h1.2 h
  · exact hok.photos.sublist (List.Sublist.map _ List.filter_sublist)

theorem part_ok : PersonOk l (part ps[n] ids name i) := by
  have hok := hr.all _ (List.getElem_mem hn)
  have h1 := hp.le
  have h2 := hp.few
  refine ⟨⟨by show 1 ≤ (i : Int) + 1; omega, by show (i : Int) + 1 ≤ 1000000; omega⟩, hp.title, ⟨fun k hk => hok.likes.all k (hp.sub k hk), hp.rise⟩, ⟨fun k hk => ?_, join_rise _ _⟩, fun k hk hk2 => ?_, ?_⟩
  · rcases join_mem.1 hk with h | h
    · exact hok.nots.all k h
    · exact hok.likes.all k (less_mem.1 h).1
  · rcases join_mem.1 hk2 with h | h
    · exact hok.apart k (hp.sub k hk) h
    · exact (less_mem.1 h).2 hk
  · have e : ids = ps[n].Likes.filter fun k => decide (k ∈ ids) := rise_same hp.rise (hok.likes.rise.sublist List.filter_sublist) fun k => by
      rw [List.mem_filter, decide_eq_true_iff]
      exact ⟨fun h => ⟨hp.sub k h, h⟩, fun h => h.2⟩
    show (ids.map (photoL l)).Nodup
    rw [e]
    exact hok.photos.sublist (List.Sublist.map _ List.filter_sublist)

theorem parted_right : Right l q := by
  rw [hp.eq]
  have h1 : Right l (ps.set n (rest ps[n] ids)) := right_set hr n hn _ rfl (rest_ok hr hp) fun j hj hjn k hk => apart_of hr hn j hj hjn k (less_mem.1 hk).1
  have hlen : (ps.set n (rest ps[n] ids)).length = ps.length := by simp
  have hidj : ∀ (j : Nat) (h : j < ps.length), ((ps.set n (rest ps[n] ids))[j]'(by simpa using h)).Id = ps[j].Id := fun j h => by
    rw [List.getElem_set]
    split
    · rename_i e; subst e; rfl
    · rfl
  refine right_ins h1 (by rw [hlen]; exact hp.few) i (by rw [hlen]; exact hp.le) (part_ok hr hp) (fun j h hj => ?_) (fun j h hj => ?_) fun p hpm k hk => ?_
  · rw [hidj j (by omega)]; exact hp.below j (by omega) hj
  · rw [hidj j (by omega)]; exact hp.above j (by omega) hj
  · obtain ⟨j, hj, rfl⟩ := List.getElem_of_mem hpm
    rw [List.getElem_set]
    split
    · exact fun h => (less_mem.1 h).2 hk
    · rename_i hne
      exact apart_of hr hn j (by omega) (fun e => hne e.symm) k (hp.sub k hk)

include hg
theorem merge_of (hc : face_Check l = some 0) : face_Merge l q person ((i : Int) + 1) = some (ps, 0) := by
  have hrq := parted_right hr hp
  have hok := hr.all _ (List.getElem_mem hn)
  have hsz := right_sz hg hr _ (List.getElem_mem hn)
  have hi3 : ids.length ≤ 300 := by have := rise_len hp.rise hok.likes.rise hp.sub; omega
  have hlen : (ps.set n (rest ps[n] ids)).length = ps.length := by simp
  have hlq : q.length = ps.length + 1 := by rw [hp.eq, ins_len _ i _ (by rw [hlen]; exact hp.le), hlen]
  have hfew := hp.few
  have hle := hp.le
  obtain ⟨a, ha⟩ : ∃ a, a = if n < i then n else n + 1 := ⟨_, rfl⟩
  have haq : a < q.length := by rw [hlq, ha]; split <;> omega
  have hiq : i < q.length := by omega
  have hqa : q[a] = rest ps[n] ids := by
    have h := ins_get (ps.set n (rest ps[n] ids)) i n (part ps[n] ids name i) (by rw [hlen]; exact hp.le) (by rw [hlen]; exact hn)
    rw [← ha, ← hp.eq, List.getElem?_eq_getElem haq, List.getElem_set_self] at h
    exact Option.some.inj h
  have hqi : q[i] = part ps[n] ids name i := by
    have h := ins_new (ps.set n (rest ps[n] ids)) i (part ps[n] ids name i) (by rw [hlen]; exact hp.le)
    rw [← hp.eq, List.getElem?_eq_getElem hiq] at h
    exact Option.some.inj h
  have e1 : face_personAt q person = some ((a : Int), true) := by
    have h := personAt_eq q hrq.rise hrq.len a haq
    rw [hqa] at h
    have : (rest ps[n] ids).Id = person := hp.id
    rw [this] at h; exact h
  have e2 : face_personAt q ((i : Int) + 1) = some ((i : Int), true) := by
    have h := personAt_eq q hrq.rise hrq.len i hiq
    rw [hqi] at h; exact h
  have hne : person ≠ (i : Int) + 1 := by
    rw [← hp.id]
    rcases Nat.lt_or_ge n i with h | h
    · have := hp.below n hn h; omega
    · have := hp.above n hn h; omega
  have hrest := rest_ok hr hp
  have hpart := part_ok hr hp
  have hl1 := ids_len hg hrest.likes
  have hl2 := ids_len hg hrest.nots
  have hl3 := ids_len hg hpart.nots
  have hl4 : (part ps[n] ids name i).Likes.length ≤ 300 := hi3
  have hl5 : (join (rest ps[n] ids).Nots (part ps[n] ids name i).Nots).length ≤ 300 := ids_len hg ⟨fun k hk => by
    rcases join_mem.1 hk with h | h
    · exact hrest.nots.all k h
    · exact hpart.nots.all k h, join_rise _ _⟩
  have hl6 := hsz.1
  have hlikes : join (rest ps[n] ids).Likes (part ps[n] ids name i).Likes = ps[n].Likes := rise_same (join_rise _ _) hok.likes.rise fun k => by
    rw [join_mem]
    show k ∈ less ps[n].Likes ids ∨ k ∈ ids ↔ _
    rw [less_mem]
    constructor
    · rintro (h | h)
      · exact h.1
      · exact hp.sub k h
    · intro h
      by_cases hk : k ∈ ids
      · exact .inr hk
      · exact .inl ⟨h, hk⟩
  have hnots : less (join (rest ps[n] ids).Nots (part ps[n] ids name i).Nots) ps[n].Likes = ps[n].Nots := rise_same (less_rise (join_rise _ _)) hok.nots.rise fun k => by
    rw [less_mem, join_mem]
    show (k ∈ join ps[n].Nots ids ∨ k ∈ join ps[n].Nots (less ps[n].Likes ids)) ∧ _ ↔ _
    rw [join_mem, join_mem, less_mem]
    constructor
    · rintro ⟨(h | h) | h | h, h2⟩
      · exact h
      · exact absurd (hp.sub k h) h2
      · exact h
      · exact absurd h.1 h2
    · intro h
      exact ⟨.inl (.inl h), fun h2 => hok.apart k h2 h⟩
  unfold face_Merge
  rw [check_of hg hc hrq (right_psz hg hrq), bnd_pure, decF (by simp), cnd_false, e1, bnd_pure, e2, bnd_pure, Bool.not_true, cnd_false, cnd_false, decF hne, cnd_false, gAt_nat haq, bnd_pure, gAt_nat hiq, bnd_pure, hqa, hqi]
  have hcon : slices_ContainsFunc_int (part ps[n] ids name i).Likes (face_Merge_1 l (rest ps[n] ids)) = some false := by
    show slices_ContainsFunc_int ids _ = _
    rw [containsFunc_eq ids (face_Merge_1 l (rest ps[n] ids)) (fun k => decide (photoL l k ∈ photosL l (less ps[n].Likes ids))) (by omega) (fun k hk => by
      unfold face_Merge_1
      rw [hasPhoto_eq hg _ k (by show (rest ps[n] ids).Likes.length ≤ _; omega) (hok.likes.all k (hp.sub k hk)) hrest.likes.all, bnd_pure]; rfl)]
    congr 1
    refine List.any_eq_false.2 fun k hk => ?_
    simp only [decide_eq_true_iff]
    unfold photosL
    rw [List.mem_map]
    rintro ⟨k', hk', e⟩
    have h1 := less_mem.1 hk'
    have := nodup_inj (f := photoL l) hok.photos k' h1.1 k (hp.sub k hk) e
    subst this
    exact h1.2 hk
  rw [hcon, bnd_pure, cnd_false, copy_eq q hrq.len (right_psz hg hrq) (right_rise hrq), bnd_pure, with_join _ _ (by omega), bnd_pure, hlikes, gAt_nat haq, bnd_pure, hqa, gSet_ok (by omega) (by rw [Int.toNat_natCast]; exact haq), bnd_pure, Int.toNat_natCast, with_join _ _ (by omega), bnd_pure]
  have ha2 : ∀ x : T_face_Person, a < (q.set a x).length := fun x => by simpa using haq
  rw [gAt_nat (ha2 _), bnd_pure, List.getElem_set_self, without_less _ _ (by omega) (by show ps[n].Likes.length ≤ _; omega), bnd_pure, bnd_pure, gSet_ok (by omega) (by rw [Int.toNat_natCast]; exact ha2 _), bnd_pure, Int.toNat_natCast, List.set_set, gI_ok (by omega), bnd_pure]
  show bnd (gDelN (q.set a ⟨ps[n].Id, ps[n].Name, ps[n].Likes, less (join (rest ps[n] ids).Nots (part ps[n] ids name i).Nots) ps[n].Likes⟩) (i : Int) ((i : Int) + 1)) _ = _
  rw [hnots]
  have hset : q.set a ps[n] = insL ps (i : Int) (part ps[n] ids name i) := by
    rw [hp.eq, ha, ins_set _ i n _ _ (by rw [hlen]; exact hp.le) (by rw [hlen]; exact hn), List.set_set, List.set_getElem_self]
  show bnd (gDelN (q.set a ps[n]) (i : Int) ((i : Int) + 1)) _ = _
  rw [hset, gDelN_ok (by rw [ins_len _ i _ hle]; omega), bnd_pure, del_ins _ i _ hle]
end parted

/-! ### the law -/
theorem containsP_eq (ps : List T_face_Person) (x : T_face_Person) (hl : ps.length ≤ 100) : slices_ContainsFunc_face_Person ps (Keep_FaceSplits_1 x) = some (ps.any fun y => decide (y.Id = x.Id)) := by
  unfold slices_ContainsFunc_face_Person
  rw [indexPerson_eq ps (Keep_FaceSplits_1 x) (fun y => decide (y.Id = x.Id)) (by omega) (fun _ _ => rfl), bnd_pure, idx_nn]

section law
variable {l : List T_face_Likeness} (hg : Good l) (hc : face_Check l = some 0) {ps : List T_face_Person} (hr : Right l ps)
include hg hc hr

theorem keep_end (t : List T_face_Person × Int) (person x : Int) (hm : face_Merge l t.1 person x = some (ps, 0)) : Keep_FaceSplits_j2 l ps person t x = some true := by
  have hlen := hr.len
  unfold Keep_FaceSplits_j2
  rw [hm, bnd_pure, decF (by simp), cnd_false, decF (by simp), cnd_false, check_of hg hc hr (right_psz hg hr), bnd_pure, decF (by simp), cnd_false]
  have h := up (F := fun next3 s => Keep_FaceSplits_l3 ps (ps, 0) next3 s) ps.length (fun _ => some true) (fun next k hk ih => by
    simp only [Keep_FaceSplits_l3]
    rcases Nat.lt_or_ge k ps.length with h | h
    · have hsz := right_sz hg hr _ (List.getElem_mem h)
      rw [decT (by omega), cnd_true, gAt_nat h, bnd_pure, bnd_pure, decF (by simp), cnd_false, bnd_pure, equal_ints _ (by omega), bnd_pure, Bool.not_true, cnd_false, gI_ok (by omega), bnd_pure, ih h]
    · rw [decF (by omega), cnd_false])
  exact h

theorem keep_split (person : Int) (ids : List Int) (hids : ids.length ≤ 17592186044000) : Keep_FaceSplits_j1 l ps person ids = some true := by
  unfold Keep_FaceSplits_j1
  obtain ⟨t, ht, htp⟩ := split_of hg hc hr person ids [110, 101, 119] hids
  rw [ht, bnd_pure]
  by_cases h0 : t.2 = 0
  · obtain ⟨n, i, hn, hp⟩ := htp h0
    have hrq := parted_right hr hp
    have hfew := hp.few
    have hle := hp.le
    have hlen : (ps.set n (rest ps[n] ids)).length = ps.length := by simp
    have hlq : t.1.length = ps.length + 1 := by rw [hp.eq, ins_len _ i _ (by rw [hlen]; exact hp.le), hlen]
    rw [decF (by simpa using h0), cnd_false, check_of hg hc hrq (right_psz hg hrq), bnd_pure, decF (by simp), cnd_false, gI_ok (by omega), bnd_pure, decF (by omega), cnd_false]
    have hiq : i < t.1.length := by omega
    have hqi : t.1[i] = part ps[n] ids [110, 101, 119] i := by
      have h := ins_new (ps.set n (rest ps[n] ids)) i (part ps[n] ids [110, 101, 119] i) (by rw [hlen]; exact hp.le)
      rw [← hp.eq, List.getElem?_eq_getElem hiq] at h
      exact Option.some.inj h
    have hnew : ∀ y ∈ ps, y.Id ≠ (i : Int) + 1 := fun y hy => by
      obtain ⟨j, hj, rfl⟩ := List.getElem_of_mem hy
      rcases Nat.lt_or_ge j i with h | h
      · have := hp.below j hj h; omega
      · have := hp.above j hj h; omega
    have hrs := List.pairwise_iff_getElem.1 hrq.rise
    have hold : ∀ (k : Nat) (hk : k < t.1.length), k ≠ i → ∃ y ∈ ps, y.Id = t.1[k].Id := fun k hk hki => by
      have hmem : t.1[k] ∈ insL (ps.set n (rest ps[n] ids)) (i : Int) (part ps[n] ids [110, 101, 119] i) := by rw [← hp.eq]; exact List.getElem_mem hk
      rcases ins_mem hmem with h | h
      · exfalso
        rw [← hqi] at h
        rcases Nat.lt_or_ge k i with h2 | h2
        · have := hrs k i hk hiq h2; rw [h] at this; omega
        · have := hrs i k hiq hk (by omega); rw [h] at this; omega
      · rcases List.mem_or_eq_of_mem_set h with h2 | h2
        · exact ⟨_, h2, rfl⟩
        · exact ⟨ps[n], List.getElem_mem hn, by rw [h2]; rfl⟩
    have key : ∃ r, fix (fun next4 s => Keep_FaceSplits_l4 l ps person t next4 s.1 s.2) (0, 0) = some r ∧ r = true := by
      refine fix_run (F := fun next4 s => Keep_FaceSplits_l4 l ps person t next4 s.1 s.2) (fun s : Int × Int => ∃ k : Nat, s.2 = k ∧ k ≤ t.1.length ∧ (i < k → s.1 = (i : Int) + 1)) (fun s => t.1.length - s.2.toNat) (fun r => r = true) ?_ (0, 0) ⟨0, rfl, Nat.zero_le _, fun h => by omega⟩
      rintro ⟨x, _⟩ ⟨k, rfl, hk, hx⟩
      simp only [Keep_FaceSplits_l4, Keep_FaceSplits_j5]
      rcases Nat.lt_or_ge k t.1.length with h | h
      · by_cases hki : k = i
        · subst hki
          refine .inr ⟨((k : Int) + 1, (k : Int) + 1), ⟨k + 1, by simp, h, fun _ => rfl⟩, by simp only; omega, fun next => ?_⟩
          have hf : (ps.any fun y => decide (y.Id = t.1[k].Id)) = false := List.any_eq_false.2 fun y hy => by
            rw [hqi, decide_eq_true_iff]; exact hnew y hy
          rw [decT (by omega), cnd_true, gAt_nat h, bnd_pure, containsP_eq ps _ hr.len, bnd_pure, hf, Bool.not_false, cnd_true, gI_ok (by omega), bnd_pure, hqi]
          rfl
        · refine .inr ⟨(x, (k : Int) + 1), ⟨k + 1, by simp, h, fun h2 => hx (by omega)⟩, by simp only; omega, fun next => ?_⟩
          have hf : (ps.any fun y => decide (y.Id = t.1[k].Id)) = true := List.any_eq_true.2 (by
            obtain ⟨y, hy, e⟩ := hold k h hki
            exact ⟨y, hy, by simpa using e⟩)
          rw [decT (by omega), cnd_true, gAt_nat h, bnd_pure, containsP_eq ps _ hr.len, bnd_pure, hf, Bool.not_true, cnd_false, gI_ok (by omega), bnd_pure]
      · refine .inl ⟨true, rfl, fun next => ?_⟩
        have hx2 := hx (by omega)
        simp only at hx2
        rw [decF (by omega), cnd_false, hx2]
        exact keep_end hg hc hr t person _ (merge_of hg hr hp hc)
    obtain ⟨r, h1, rfl⟩ := key
    exact h1
  · rw [decT h0, cnd_true]
end law

theorem face_splits (l : List T_face_Likeness) (ps : List T_face_Person) (person : Int) (ids : List Int) (lim : Int) (hl : l.length ≤ 9223372036854775000) (hsz : ∀ p ∈ ps, Sz0 p) (hn : ps.length ≤ 9223372036854775000) (hids : ids.length ≤ 17592186044000) : Keep_FaceSplits l ps person ids lim = some true := by
  unfold Keep_FaceSplits
  rw [awake, bnd_pure, Bool.not_true, cnd_false]
  have hC := check_eq l (by omega)
  generalize hfe : (if 300 < l.length then 4 else firstE (likeF l) l.length 0) = fe at *
  have bad : ∀ e, e ≠ 0 → face_CheckPeople l ps = some e → (bnd (face_Sort l ps lim) fun t26 => cnd (decide (t26.2 = 0)) (bnd (face_CheckPeople l t26.1) fun t34 => cnd (decide (t34 ≠ 0)) (some false) (Keep_FaceSplits_j1 l ps person ids)) (Keep_FaceSplits_j1 l ps person ids)) = some true := fun e he h => by
    have h1 : face_Sort l ps lim = some ([], e) := by
      unfold face_Sort
      rw [h, bnd_pure, decT he, cnd_true]
    have h2 : face_Split l ps person ids [110, 101, 119] = some ([], e) := by
      unfold face_Split
      rw [h, bnd_pure, decT he, cnd_true]
    rw [h1, bnd_pure, decF he, cnd_false]
    unfold Keep_FaceSplits_j1
    rw [h2, bnd_pure, decT he, cnd_true]
  by_cases h0 : fe = 0
  · have hg : Good l := by
      by_cases h3 : 300 < l.length
      · rw [if_pos h3] at hfe; omega
      · rw [if_neg h3] at hfe; exact good_of l (by omega) (hfe.trans h0)
    rw [h0] at hC
    obtain ⟨e, he, her⟩ := check_right hg hC ps (fun p hp => (hsz p hp).psz) hn
    by_cases he0 : e = 0
    · have hr := her.1 he0
      obtain ⟨r, hr1, hr2⟩ := sort_right hg hC hr lim
      rw [hr1, bnd_pure]
      by_cases hr0 : r.2 = 0
      · rw [decT hr0, cnd_true, check_of hg hC (hr2 hr0) (right_psz hg (hr2 hr0)), bnd_pure, decF (by simp), cnd_false]
        exact keep_split hg hC hr person ids hids
      · rw [decF hr0, cnd_false]
        exact keep_split hg hC hr person ids hids
    · exact bad e he0 he
  · refine bad fe h0 ?_
    unfold face_CheckPeople
    rw [hC, bnd_pure, decT h0, cnd_true]

theorem faceSplitsS (l : List T_face_Likeness) (ps : List T_face_Person) (person : Int) (ids : List Int) (lim : Int) {φ ψ ψ2 : Prop} {α β γ δ : T_face_Person → Prop} (h1 : (l.length ≤ 9223372036854775807 ∧ l.length * 112 ≤ 140737488351232) ∧ φ)
    (h2 : (ps.length ≤ 9223372036854775807 ∧ ps.length * 72 ≤ 140737488351232) ∧ ∀ a ∈ ps, α a ∧ β a ∧ ((a.Likes.length ≤ 9223372036854775807 ∧ a.Likes.length * 8 ≤ 140737488351232) ∧ γ a) ∧ ((a.Nots.length ≤ 9223372036854775807 ∧ a.Nots.length * 8 ≤ 140737488351232) ∧ δ a)) (_ : ψ) (h3 : (ids.length ≤ 9223372036854775807 ∧ ids.length * 8 ≤ 140737488351232) ∧ ψ2) {ψ3 : Prop} (_ : ψ3) : Keep_FaceSplits l ps person ids lim = some true :=
  face_splits l ps person ids lim (by omega) (fun p hp => by have := h2.2 p hp; exact ⟨by omega, by omega⟩) (by omega) (by omega)
end Go.M
