/- Likenesses, in plain Lean. Conditions: none. -/
import Derived.Test.YthhaabhnlndnoaaGreatPl
import Derived.Test.YthhaabhnlndnoaaGreatMFh
import Derived.Test.YthhaabhnlndnoaaGreatStA
namespace Go.M
open Go.Md Go.Pl
def okN (x : Int) : Bool := decide (-127 ≤ x ∧ x ≤ 127)
theorem okN_iff {x : Int} : okN x = true ↔ -127 ≤ x ∧ x ≤ 127 := by simp [okN]
def c12 (v : Nat → Int) (j : Nat) : Int := if okN (v j) = true then 0 else 2
def vecF (v : Nat → Int) : Int := Jai (c12 v) 12 0
theorem Wl (a b c : Int) : V8 a b c = some (decide (a < b ∨ c < a)) := by
 unfold V8
 rw [cnd_if]; by_cases h : a < b <;> simp [h]
theorem R_VecFault_eq (v : Nat → Int) : R_VecFault v = some (vecF v) := by
 unfold R_VecFault vecF
 refine scan 12 _ (fun next k hk => ?_) fun next => ?_
 ·unfold Jb0 c12
  by_cases h : okN (v k) = true
  ·have h' := okN_iff.1 h
   rw [if_pos h]
   simp (disch := omega) only [cnd_if, Qi, gIx_nat, Jb, if_pos, if_neg, if_true]
  ·have h' : ¬ (-127 ≤ v k ∧ v k ≤ 127) := fun hh => h (okN_iff.2 hh)
   rw [if_neg h]
   by_cases h2 : v k < -127 <;> simp (disch := omega) only [cnd_if, Qi, gIx_nat, Jb, if_pos, if_neg]
 ·unfold Jb0
  rfl
theorem face_CheckVec_eq (v : Nat → Int) : Jc6 v = some (vecF v) := by
 unfold Jc6 vecF
 refine scan 12 _ (fun next k hk => ?_) fun next => ?_
 ·unfold Jad c12
  by_cases h : okN (v k) = true
  ·have h' := okN_iff.1 h
   rw [if_pos h]
   simp (disch := omega) only [cnd_if, Qi, gIx_nat, Jb, Wl, if_pos, if_neg, if_true]
  ·have h' : ¬ (-127 ≤ v k ∧ v k ≤ 127) := fun hh => h (okN_iff.2 hh)
   rw [if_neg h]
   simp (disch := omega) only [cnd_if, Qi, gIx_nat, Jb, Wl, if_pos, if_neg]
 ·unfold Jad
  rfl
theorem vecF_ok {w : Nat → Int} (h : vecF w = 0) (j : Nat) (hj : j < 12) : -127 ≤ w j ∧ w j ≤ 127 := by
 have := firstE_zero h j (by omega) (by omega)
 unfold c12 at this
 by_cases hh : okN (w j) = true
 ·exact okN_iff.1 hh
 ·rw [if_neg hh] at this; cases this
theorem R_FarOf_eq : R_FarOf = Jan := rfl
def likeF (l : List T_face_Likeness) (j : Nat) : Int :=
 if ¬ (1 ≤ (l.getD j default).Id ∧ (l.getD j default).Id ≤ 1000000) ∨ ¬ (1 ≤ (l.getD j default).Photo ∧ (l.getD j default).Photo ≤ 1000000) then 2
 else if 0 < j ∧ (l.getD j default).Id ≤ (l.getD (j - 1) default).Id then 5 else vecF (l.getD j default).Vec
theorem idOk_eq (n : Int) : R_idOk n = some (decide (1 ≤ n ∧ n ≤ 1000000)) := by
 unfold R_idOk
 rw [cnd_if]; by_cases h : 1 ≤ n <;> simp [h]
theorem at_D {α : Type} [Inhabited α] {l : List α} {k : Nat} (h : k < l.length) : l.getD k default = l[k] := by
 rw [List.getD_eq_getElem?_getD, List.getElem?_eq_getElem h]; rfl
theorem check_eq (l : List T_face_Likeness) (hl : l.length ≤ 9223372036854775807) : V3 l = some (if 300 < l.length then 4 else Jai (likeF l) l.length 0) := by
 unfold V3
 rw [cnd_if]
 by_cases h3 : 300 < l.length
 ·rw [if_pos (by omega), if_pos h3]
 ·rw [if_neg (by omega), if_neg h3]
  refine scan l.length _ (fun next k hk => ?_) fun next => ?_
  ·unfold Jar likeF
   rw [at_D hk]
   simp (disch := omega) only [cnd_if, J6, Jb, if_pos, Wl]
   by_cases h1 : 1 ≤ l[k].Id ∧ l[k].Id ≤ 1000000
   ·by_cases h2 : 1 ≤ l[k].Photo ∧ l[k].Photo ≤ 1000000
    ·have hh : ¬ (¬ (1 ≤ l[k].Id ∧ l[k].Id ≤ 1000000) ∨ ¬ (1 ≤ l[k].Photo ∧ l[k].Photo ≤ 1000000)) := by omega
     rw [if_neg (by omega), if_neg (by omega), if_neg hh]
     have hj2 : Us (k : Int) next l[k] = if vecF l[k].Vec = 0 then next ((k : Int) + 1) else some (vecF l[k].Vec) := by
      unfold Us
      rw [face_CheckVec_eq, Jb, Qi (by omega), Jb, cnd_if]
      by_cases hv : vecF l[k].Vec = 0 <;> simp [hv]
     by_cases hk0 : 0 < k
     ·have hm : (l.getD (k - 1) default) = l[k - 1] := at_D (show k - 1 < l.length by omega)
      rw [if_pos (by omega), Qi (by omega), Jb, show ((k : Int) - 1) = ((k - 1 : Nat) : Int) from by omega, J6 (by omega), Jb, hm]
      by_cases hle : l[k].Id ≤ l[k - 1].Id
      ·have hc : (if 0 < k ∧ l[k].Id ≤ l[k - 1].Id then (5 : Int) else vecF l[k].Vec) = 5 := if_pos ⟨hk0, hle⟩
       rw [if_pos hle, hc, if_neg (by decide)]
      ·have hc : (if 0 < k ∧ l[k].Id ≤ l[k - 1].Id then (5 : Int) else vecF l[k].Vec) = vecF l[k].Vec := if_neg fun h => hle h.2
       rw [if_neg hle, hc, hj2]
     ·have hc : (if 0 < k ∧ l[k].Id ≤ (l.getD (k - 1) default).Id then (5 : Int) else vecF l[k].Vec) = vecF l[k].Vec := if_neg fun h => hk0 h.1
      rw [if_neg (by omega), hc, hj2]
    ·have hh : ¬ (1 ≤ l[k].Id ∧ l[k].Id ≤ 1000000) ∨ ¬ (1 ≤ l[k].Photo ∧ l[k].Photo ≤ 1000000) := .inr h2
     rw [if_neg (by omega), if_pos (by omega), if_pos hh, if_neg (by decide)]
   ·have hh : ¬ (1 ≤ l[k].Id ∧ l[k].Id ≤ 1000000) ∨ ¬ (1 ≤ l[k].Photo ∧ l[k].Photo ≤ 1000000) := .inl h1
    rw [if_pos (by omega), if_pos hh, if_neg (by decide)]
  ·unfold Jar
   rw [cnd_if, if_neg (by omega)]
theorem likes_eq (l : List T_face_Likeness) (hl : l.length ≤ 9223372036854775807) : R_LikesFault l = some (if 300 < l.length then 4 else Jai (likeF l) l.length 0) := by
 rw [← check_eq l hl]
 unfold R_LikesFault V3
 congr 2
 funext next a
 unfold Jb7 Jar
 congr 1
 congr 1
 funext t
 simp only [idOk_eq, Wl, Jb]
 have e1 : (!decide (1 ≤ t.Id ∧ t.Id ≤ 1000000)) = decide (t.Id < 1 ∨ 1000000 < t.Id) := by
  rw [Bool.eq_iff_iff]; simp <;> omega
 have e2 : (!decide (1 ≤ t.Photo ∧ t.Photo ≤ 1000000)) = decide (t.Photo < 1 ∨ 1000000 < t.Photo) := by
  rw [Bool.eq_iff_iff]; simp <;> omega
 have e3 : ∀ b c, Jam a next t b c = Us a next t := by
  intro b c
  unfold Jam Us
  rw [R_VecFault_eq, face_CheckVec_eq]
 simp only [e1, e2, e3]
end Go.M

/- FacePeople in plain Lean, first part: searches in lists. Conditions: few elements. -/
namespace Go.M
open Go.Md Go.Pl
set_option linter.unusedVariables false
theorem half {x : Int} (h : 0 ≤ x ∧ x ≤ 4611686018427387904) : gShr 64 (wU64 x) 1 = some (x / 2) ∧ Xm (x / 2) = x / 2 := by
 refine ⟨?_, wI64_in (by omega)⟩
 rw [wU64_in (by omega)]
 unfold gShr
 rw [if_pos (by omega)]
 rfl
theorem Qd {p : Prop} [Decidable p] (h : p) : decide p = true := decide_eq_true h
theorem Qh {p : Prop} [Decidable p] (h : ¬ p) : decide p = false := decide_eq_false h
def idx {α : Type} (g : α → Bool) (l : List α) : Int := match l.findIdx? g with | some k => (k : Int) | none => -1
theorem idx_nn {α : Type} (g : α → Bool) (l : List α) : decide (0 ≤ idx g l) = l.any g := by
 unfold idx
 cases h : l.findIdx? g with
 | none =>
  rw [List.findIdx?_eq_none_iff] at h
  have : l.any g = false := by rw [List.any_eq_false]; intro x hx; simp [h x hx]
  rw [this]; rfl
 | some k =>
  have : l.any g = true := by
   rw [List.findIdx?_eq_some_iff_getElem] at h
   obtain ⟨h1, h2, _⟩ := h
   exact List.any_eq_true.2 ⟨_, List.getElem_mem h1, h2⟩
  rw [this]; simp
theorem index_loop {α : Type} {F : (Int → Option Int) → Int → Option Int} (l : List α) (g : α → Bool)
  (more : ∀ (next : Int → Option Int) (k : Nat) (h : k < l.length), F next (k : Int) = if g l[k] = true then some (k : Int) else next ((k : Int) + 1)) (last : ∀ next, F next (l.length : Int) = some (-1)) : Zx F 0 = some (idx g l) := by
 have h := up (F := F) l.length (fun k => some (match (l.drop k).findIdx? g with | some j => ((k + j : Nat) : Int) | none => -1)) (fun next k hk ih => by
  rcases Nat.lt_or_ge k l.length with h | h
  ·rw [more next k h, List.drop_eq_getElem_cons h, List.findIdx?_cons]
   by_cases hg : g l[k] = true
   ·rw [if_pos hg, if_pos hg]; rfl
   ·rw [if_neg hg, if_neg hg, ih h]
    cases (l.drop (k + 1)).findIdx? g with
    | none => rfl
    | some j => simp only [Option.map_some]; rw [show k + 1 + j = k + (j + 1) by omega]
  ·have : k = l.length := by omega
   subst this
   rw [last, List.drop_length]; rfl)
 rw [h, List.drop_zero]
 unfold idx
 cases l.findIdx? g <;> simp
theorem Jbi {α : Type} {l : List α} {f : α → Option Bool} {g : α → Bool} (hl : l.length ≤ 9223372036854775000) (hf : ∀ x ∈ l, f x = some (g x)) {F : (Int → Option Int) → Int → Option Int}
  (hF : ∀ next x, F next x = Xg (decide (x < (l.length : Int))) (J0 (Jk l x) fun t14 => J0 (f t14) fun t16 => Xg t16 (some x) (J0 (gI (x + 1)) fun t18 => next t18)) (some (-1))) : Zx F 0 = some (idx g l) := by
 refine index_loop l g (fun next k h => ?_) fun next => ?_
 ·rw [hF, Qd (by omega), Jj, J6 h, Jb, hf _ (List.getElem_mem h), Jb, Qi (by omega), Jb]
  by_cases hg : g l[k] = true
  ·rw [if_pos hg, hg, Jj]
  ·rw [if_neg hg, (by simpa using hg : g l[k] = false), Ji]
 ·rw [hF, Qh (by omega), Ji]
theorem indexInt_eq (l : List Int) (f : Int → Option Bool) (g : Int → Bool) (hl : l.length ≤ 9223372036854775000) (hf : ∀ x ∈ l, f x = some (g x)) : Um l f = some (idx g l) := Jbi hl hf fun _ _ => rfl
theorem Jal (l : List Int) (f : Int → Option Bool) (g : Int → Bool) (hl : l.length ≤ 9223372036854775000) (hf : ∀ x ∈ l, f x = some (g x)) : X0 l f = some (l.any g) := by
 unfold X0
 rw [indexInt_eq l f g hl hf, Jb, idx_nn]
theorem indexByte_eq (l : List Int) (f : Int → Option Bool) (g : Int → Bool) (hl : l.length ≤ 9223372036854775000) (hf : ∀ x ∈ l, f x = some (g x)) : Jas l f = some (idx g l) := Jbi hl hf fun _ _ => rfl
theorem containsByte_eq (l : List Int) (f : Int → Option Bool) (g : Int → Bool) (hl : l.length ≤ 9223372036854775000) (hf : ∀ x ∈ l, f x = some (g x)) : V5 l f = some (l.any g) := by
 unfold V5
 rw [indexByte_eq l f g hl hf, Jb, idx_nn]
theorem indexLike_eq (l : List T_face_Likeness) (f : T_face_Likeness → Option Bool) (g : T_face_Likeness → Bool) (hl : l.length ≤ 9223372036854775000) (hf : ∀ x ∈ l, f x = some (g x)) : Yy l f = some (idx g l) := Jbi hl hf fun _ _ => rfl
theorem Jcm (l : List T_face_Person) (f : T_face_Person → Option Bool) (g : T_face_Person → Bool) (hl : l.length ≤ 9223372036854775000) (hf : ∀ x ∈ l, f x = some (g x)) : Ze l f = some (idx g l) := Jbi hl hf fun _ _ => rfl
theorem any_eq (l : List Int) (n : Int) : l.any (fun x => decide (n = x)) = decide (n ∈ l) := by
 rw [Bool.eq_iff_iff, List.any_eq_true, decide_eq_true_iff]
 constructor
 ·rintro ⟨x, hx, h⟩; simp at h; subst h; exact hx
 ·intro h; exact ⟨n, h, by simp⟩
theorem Ws (l : List Int) (n : Int) (hl : l.length ≤ 9223372036854775000) : Xs l n = some (decide (n ∈ l)) := by
 unfold Xs
 rw [show Jc3 l n = some (idx (fun x => decide (n = x)) l) from Jbi (f := fun t14 => some (decide (n = t14))) hl (fun _ _ => rfl) fun _ _ => rfl, Jb, idx_nn, any_eq]
theorem bin_loop {α ρ : Type} {F : (Int × Int → Option ρ) → Int × Int → Option ρ} (l : List α) (p : α → Bool) (mono : ∀ (i j : Nat) (hi : i < l.length) (hj : j < l.length), i < j → p l[j] = true → p l[i] = true) (J : Int → Option ρ)
  (more : ∀ (next : Int × Int → Option ρ) (i j : Nat) (h : (i + j) / 2 < l.length), i < j → j ≤ l.length → F next ((i : Int), (j : Int)) = if p l[(i + j) / 2] = true then next (((i + j) / 2 : Nat) + 1, (j : Int)) else next ((i : Int), (((i + j) / 2 : Nat) : Int)))
  (stop : ∀ next (i : Nat), i ≤ l.length → F next ((i : Int), (i : Int)) = J i) :
  ∃ k : Nat, k ≤ l.length ∧ (∀ (i : Nat) (h : i < l.length), i < k → p l[i] = true) ∧ (∀ (i : Nat) (h : i < l.length), k ≤ i → p l[i] = false) ∧ Zx F (0, (l.length : Int)) = J k := by
 have key : ∀ n i j, i ≤ j → j ≤ l.length → j - i < n → (∀ (q : Nat) (h : q < l.length), q < i → p l[q] = true) → (∀ (q : Nat) (h : q < l.length), j ≤ q → p l[q] = false) →
   ∃ k : Nat, k ≤ l.length ∧ (∀ (i : Nat) (h : i < l.length), i < k → p l[i] = true) ∧ (∀ (i : Nat) (h : i < l.length), k ≤ i → p l[i] = false) ∧ Zx F ((i : Int), (j : Int)) = J k := by
  intro n
  induction n with
  | zero => intro i j _ _ h; omega
  | succ n ih =>
   intro i j h1 h2 h3 h4 h5
   rcases Nat.lt_or_ge i j with h | h
   ·have hb : (i + j) / 2 < l.length := by omega
    by_cases hp : p l[(i + j) / 2] = true
    ·rw [Yr ((((i + j) / 2 + 1 : Nat) : Int), (j : Int)) fun next => by rw [more next i j hb h h2, if_pos hp]; rfl]
     refine ih _ _ (by omega) h2 (by omega) (fun q hq hq2 => ?_) h5
     rcases Nat.lt_or_ge q ((i + j) / 2) with h6 | h6
     ·exact mono q _ hq hb h6 hp
     ·have : q = (i + j) / 2 := by omega
      subst this; exact hp
    ·rw [Yr ((i : Int), (((i + j) / 2 : Nat) : Int)) fun next => by rw [more next i j hb h h2, if_neg hp]]
     refine ih _ _ (by omega) (by omega) (by omega) h4 fun q hq hq2 => ?_
     rcases Nat.lt_or_ge ((i + j) / 2) q with h6 | h6
     ·cases h7 : p l[q] with
      | false => rfl
      | true => exact absurd (mono _ q hb hq h6 h7) hp
     ·have : q = (i + j) / 2 := by omega
      subst this; simpa using hp
   ·have : i = j := by omega
    subst this
    exact ⟨i, h2, h4, h5, Q8 fun next => stop next i h2⟩
 simpa using key (l.length + 1) 0 l.length (Nat.zero_le _) (Nat.le_refl _) (by omega) (fun q _ h => by omega) (fun q h h' => by omega)
def Rise (l : List T_face_Likeness) : Prop := l.Pairwise fun x y => x.Id < y.Id
def has (id : Int) (x : T_face_Likeness) : Bool := decide (x.Id = id)
theorem likeAt_eq (l : List T_face_Likeness) (id : Int) (hl : l.length ≤ 9223372036854775000) : Qb l id = some (idx (has id) l) := by
 unfold Qb
 rw [indexLike_eq l (R_LikeAt_1 id) (has id) hl fun _ _ => rfl, Jb]
theorem at_eq (l : List T_face_Likeness) (id : Int) (hr : Rise l) (hl : l.length ≤ 1000000000) :
  ∃ i b, Jbh l id = some (i, b) ∧ b = l.any (has id) ∧ (b = true → i = idx (has id) l) := by
 have hp := List.pairwise_iff_getElem.1 hr
 obtain ⟨k, h1, h2, h3, h4⟩ := bin_loop (F := fun next2 s => Q2 l id face_at_1 next2 s.1 s.2) l (fun x => decide (x.Id < id)) (fun i j hi hj hij h => by have := hp i j hi hj hij; simp at h ⊢; omega) (Xh l id face_at_1)
  (fun next i j h hij hj => by
   obtain ⟨f1, f2⟩ := half (x := (i : Int) + j) (by omega)
   rw [show ((i : Int) + j) / 2 = (((i + j) / 2 : Nat) : Int) by omega] at f1 f2
   simp only [Q2]
   rw [Qd (by omega), Jj, Qi (by omega), Jb, f1, Jb, f2, J6 h, Jb]
   unfold face_at_1
   by_cases hlt : l[(i + j) / 2].Id < id
   ·rw [Qd hlt, Jj, Jb, Qd (by omega), Jj, Qi (by omega), Jb, if_pos rfl]
   ·rw [Qh hlt, Ji, if_neg (by simp)]
    by_cases hgt : id < l[(i + j) / 2].Id
    ·rw [Qd hgt, Jj, Jb, Qh (by omega), Ji]
    ·rw [Qh hgt, Ji, Jb, Qh (by omega), Ji])
  (fun next i hi => by
   simp only [Q2]
   rw [Qh (by omega), Ji])
 have hfix : Jbh l id = J0 (Xh l id face_at_1 k) fun t8 => some (t8.1, t8.2) := by
  unfold Jbh Zd
  rw [h4]
 unfold Xh at hfix
 have none_of : (∀ x ∈ l, x.Id ≠ id) → l.any (has id) = false := fun h => by
  rw [List.any_eq_false]; intro x hx; simp [has, h x hx]
 rcases Nat.lt_or_ge k l.length with hk | hk
 ·rw [Qd (by omega), Jj, J6 hk, Jb] at hfix
  unfold face_at_1 at hfix
  have hge := h3 k hk (Nat.le_refl _)
  simp at hge
  rw [Qh (by omega), Ji] at hfix
  by_cases hgt : id < l[k].Id
  ·rw [Qd hgt, Jj, Jb, Jb] at hfix
   refine ⟨_, _, hfix, ?_, fun h => by simp at h⟩
   rw [none_of]; rfl
   intro x hx
   obtain ⟨j, hj, rfl⟩ := List.getElem_of_mem hx
   rcases Nat.lt_or_ge j k with h | h
   ·have := h2 j hj h; simp at this; omega
   ·rcases Nat.lt_or_ge k j with h' | h'
    ·have := hp k j hk hj h'; omega
    ·have : j = k := by omega
     subst this; omega
  ·rw [Qh hgt, Ji, Jb, Jb] at hfix
   have he : l[k].Id = id := by omega
   have hany : l.any (has id) = true := List.any_eq_true.2 ⟨_, List.getElem_mem hk, by simp [has, he]⟩
   refine ⟨_, _, hfix, by rw [hany]; rfl, fun _ => ?_⟩
   unfold idx
   have : l.findIdx? (has id) = some k := by
    rw [List.findIdx?_eq_some_iff_getElem]
    refine ⟨hk, by simp [has, he], fun j hj => ?_⟩
    have := h2 j (by omega) hj
    simp at this
    simp [has]; omega
   rw [this]
 ·rw [Qh (by omega), Ji, Jb] at hfix
  refine ⟨_, _, hfix, ?_, fun h => by simp at h⟩
  rw [none_of]
  intro x hx
  obtain ⟨j, hj, rfl⟩ := List.getElem_of_mem hx
  have := h2 j hj (by omega); simp at this; omega
theorem Uo (l : List Int) (n : Int) (hr : l.Pairwise fun x y => x < y) (hl : l.length ≤ 1000000000000000) : Wr l n = some (decide (n ∈ l)) := by
 have hp := List.pairwise_iff_getElem.1 hr
 have hless : ∀ a b, cmp_Less_int a b = some (decide (a < b)) := fun a b => by
  unfold cmp_Less_int Wv; simp
 obtain ⟨k, h1, h2, h3, h4⟩ := bin_loop (F := fun next2 s => Yw l n next2 s.1 s.2) l (fun x => decide (x < n)) (fun i j hi hj hij h => by have := hp i j hi hj hij; simp at h ⊢; omega) (Vq l n)
  (fun next i j h hij hj => by
   obtain ⟨f1, f2⟩ := half (x := (i : Int) + j) (by omega)
   rw [show ((i : Int) + j) / 2 = (((i + j) / 2 : Nat) : Int) by omega] at f1 f2
   simp only [Yw]
   rw [Qd (by omega), Jj, Qi (by omega), Jb, f1, Jb, f2, J6 h, Jb, hless, Jb]
   by_cases hlt : l[(i + j) / 2] < n
   ·rw [Qd hlt, Jj, Qi (by omega), Jb, if_pos rfl]
   ·rw [Qh hlt, Ji, if_neg (by simp)])
  (fun next i hi => by
   simp only [Yw]
   rw [Qh (by omega), Ji])
 unfold Wr Jaa
 rw [h4]
 unfold Vq Jbc
 rcases Nat.lt_or_ge k l.length with hk | hk
 ·rw [Qd (by omega), Jj, J6 hk, Jb]
  have hge := h3 k hk (Nat.le_refl _)
  simp at hge
  by_cases he : l[k] = n
  ·rw [Qd he, Jj, Jb, Qd (he ▸ List.getElem_mem hk)]
  ·rw [Qh he, Ji, Jb, Jb, Qh (by simp), Ji, Jb]
   rw [Qh]
   intro hm
   obtain ⟨j, hj, hje⟩ := List.getElem_of_mem hm
   rcases Nat.lt_or_ge j k with h | h
   ·have := h2 j hj h; simp at this; omega
   ·rcases Nat.lt_or_ge k j with h' | h'
    ·have := hp k j hk hj h'; omega
    ·have : j = k := by omega
     subst this; omega
 ·rw [Qh (by omega), Ji, Jb]
  rw [Qh]
  intro hm
  obtain ⟨j, hj, hje⟩ := List.getElem_of_mem hm
  have := h2 j hj (by omega); simp at this; omega
end Go.M

/- FacePeople in plain Lean, second part: distances, lists of photos, scores. Conditions: few elements. -/
namespace Go.M
open Go.Md Go.Pl
set_option linter.unusedVariables false
def farS (u v : Nat → Int) (k : Nat) (s : Int) : Int := (List.range' k (12 - k)).foldl (fun s j => s + (u j - v j) * (u j - v j)) s
def farV (u v : Nat → Int) : Int := farS u v 0 0
theorem sq_bd {x : Int} (hx : -254 ≤ x ∧ x ≤ 254) : 0 ≤ x * x ∧ x * x ≤ 64516 := by
 refine ⟨?_, ?_⟩
 ·rcases Int.le_total 0 x with h0 | h0
  ·exact Int.mul_nonneg h0 h0
  ·exact Int.mul_nonneg_of_nonpos_of_nonpos h0 h0
 ·rcases Int.le_total 0 x with h0 | h0
  ·have := Int.mul_le_mul hx.2 hx.2 h0 (by omega); omega
  ·have := Int.mul_le_mul (show -x ≤ 254 by omega) (show -x ≤ 254 by omega) (by omega) (by omega)
   rw [Int.neg_mul_neg] at this; omega
theorem farS_bd (u v : Nat → Int) (hu : vecF u = 0) (hv : vecF v = 0) : ∀ (m k : Nat) (s : Int), k + m = 12 → 0 ≤ s → s ≤ farS u v k s ∧ farS u v k s ≤ s + m * 64516 := by
 intro m
 induction m with
 | zero => intro k s h hs; have : k = 12 := by omega
           subst this; simp [farS]
 | succ m ih =>
  intro k s h hs
  have h1 := vecF_ok hu k (by omega)
  have h2 := vecF_ok hv k (by omega)
  have h3 := sq_bd (x := u k - v k) (by omega)
  have e : farS u v k s = farS u v (k + 1) (s + (u k - v k) * (u k - v k)) := by
   unfold farS
   rw [show 12 - k = (12 - (k + 1)) + 1 from by omega, List.range'_succ, List.foldl_cons]
  have := ih (k + 1) (s + (u k - v k) * (u k - v k)) (by omega) (by omega)
  rw [e]
  omega
theorem farV_bd (u v : Nat → Int) (hu : vecF u = 0) (hv : vecF v = 0) : 0 ≤ farV u v ∧ farV u v ≤ 774192 := by
 have := farS_bd u v hu hv 12 0 0 (by omega) (by omega)
 unfold farV; omega
theorem farV_symm (u v : Nat → Int) : farV u v = farV v u := by
 have : (fun (s : Int) (j : Nat) => s + (u j - v j) * (u j - v j)) = fun s j => s + (v j - u j) * (v j - u j) := by
  funext s j
  rw [show v j - u j = -(u j - v j) by omega, Int.neg_mul_neg]
 unfold farV farS
 rw [this]
theorem far_eq (u v : Nat → Int) (hu : vecF u = 0) (hv : vecF v = 0) : Jan u v = some (farV u v) := by
 unfold Jan
 refine up2r (σ := Int) 12 (fun k s => some (farS u v k s)) (fun k s => 0 ≤ s ∧ s ≤ k * 64516) (fun next k s hk hI ih => ?_) 0 (by simp)
 unfold face_far_l1
 by_cases h : k < 12
 ·have h1 := vecF_ok hu k h
  have h2 := vecF_ok hv k h
  have h3 := sq_bd (x := u k - v k) (by omega)
  simp (disch := omega) only [cnd_if, Qi, gIx_nat, Jb, if_pos, if_neg]
  rw [ih _ h (by omega)]
  unfold farS
  rw [show 12 - k = (12 - (k + 1)) + 1 from by omega, List.range'_succ, List.foldl_cons]
 ·have : k = 12 := by omega
  subst this
  rfl
theorem concat_eq (a b : List Int) (ha : a.length + b.length ≤ 35184372088832) : Jay [a, b] = some (a ++ b) := by
 unfold Jay
 refine (Yr (F := fun next3 s => Xx [a, b] next3 s.1 s.2) ((a.length : Int), 1) fun next => ?_).trans ((Yr (F := fun next3 s => Xx [a, b] next3 s.1 s.2) ((a.length : Int) + (b.length : Int), 2) fun next => ?_).trans (Q8 fun next => ?_))
 ·show Xx [a, b] next 0 0 = _
  unfold Xx
  rw [Qd (by simp), Jj, show Jk [a, b] 0 = some a from rfl, Jb, Qi (by omega), Jb, Qh (by omega), Ji, Qi (by omega), Jb]
  simp
 ·show Xx [a, b] next (a.length : Int) 1 = _
  unfold Xx
  rw [Qd (by simp), Jj, show Jk [a, b] 1 = some b from rfl, Jb, Qi (by omega), Jb, Qh (by omega), Ji, Qi (by omega), Jb]
  rfl
 ·show Xx [a, b] next ((a.length : Int) + (b.length : Int)) 2 = _
  unfold Xx
  rw [Qh (by simp), Ji]
  unfold Ja5
  rw [gGroC_ok (by omega), Jb]
  have hc : ((a.length : Int) + (b.length : Int)).toNat = a.length + b.length := by omega
  refine (Yr (F := fun next2 s => Xy [a, b] ((a.length : Int) + (b.length : Int)).toNat next2 s.1 s.2) (1, a) fun next => ?_).trans ((Yr (F := fun next2 s => Xy [a, b] ((a.length : Int) + (b.length : Int)).toNat next2 s.1 s.2) (2, a ++ b) fun next => ?_).trans (Q8 fun next => ?_))
  ·show Xy [a, b] _ next 0 [] = _
   unfold Xy
   rw [Qd (by simp), Jj, show Jk [a, b] 0 = some a from rfl, Jb, gApC_ok (by rw [hc]; simp; omega), Jb, Qi (by omega), Jb]
   rfl
  ·show Xy [a, b] _ next 1 a = _
   unfold Xy
   rw [Qd (by simp), Jj, show Jk [a, b] 1 = some b from rfl, Jb, gApC_ok (by rw [hc]; omega), Jb, Qi (by omega), Jb]
   rfl
  ·show Xy [a, b] _ next 2 (a ++ b) = _
   unfold Xy
   rw [Qh (by simp), Ji]
theorem cmpFrom_len (p : Int) : ∀ l : List Int, (Zy p l).length ≤ l.length
 | [] => by simp [Zy]
 | y :: l => by
  unfold Zy
  split
  ·have := cmpFrom_len p l; simp; omega
  ·have := cmpFrom_len y l; simp; omega
theorem cmpFrom_lt : ∀ (l : List Int) (p : Int), (p :: l).Pairwise (fun x y => decide (x ≤ y) = true) → ((Zy p l).length < l.length ↔ ¬ (p :: l).Nodup)
 | [], p, _ => by simp [Zy]
 | y :: l, p, h => by
  have hp := List.pairwise_cons.1 h
  have ih := cmpFrom_lt l y hp.2
  unfold Zy
  by_cases he : y = p
  ·subst he
   rw [if_pos rfl]
   have := cmpFrom_len y l
   simp
   omega
  ·rw [if_neg he]
   simp only [List.length_cons, Nat.add_lt_add_iff_right]
   rw [ih]
   refine not_congr ⟨fun hn => List.nodup_cons.2 ⟨fun hm => ?_, hn⟩, fun hn => (List.nodup_cons.1 hn).2⟩
   have hy := hp.1 y (by simp)
   simp at hy
   rcases List.mem_cons.1 hm with h1 | h1
   ·exact he h1.symm
   ·have := (List.pairwise_cons.1 hp.2).1 p h1
    simp at this; omega
theorem cmpL_lt (l : List Int) (h : l.Pairwise (fun x y => decide (x ≤ y) = true)) : (cmpL l).length < l.length ↔ ¬ l.Nodup := by
 cases l with
 | nil => simp [cmpL]
 | cons p l => simp only [cmpL, List.length_cons, Nat.add_lt_add_iff_right]; exact cmpFrom_lt l p h
def sorted (l : List Int) : List Int := l.mergeSort fun x y => decide (x ≤ y)
theorem sorted_pw (l : List Int) : (sorted l).Pairwise fun x y => decide (x ≤ y) = true :=
 List.pairwise_mergeSort (le := fun x y => decide (x ≤ y)) (fun a b c h1 h2 => by simp at *; omega) (fun a b => by simp; omega) l
theorem Jae (l : List Int) : (sorted l).Perm l := List.mergeSort_perm l _
theorem Wm (l : List Int) : (sorted l).length = l.length := List.length_mergeSort _
theorem with_eq (l : List Int) (hl : l.length ≤ 35184372088832) : ∃ w, Jh l [] = some w ∧ (w.length < l.length ↔ ¬ l.Nodup) := by
 unfold Jh
 rw [concat_eq l [] (by simpa using hl), Jb, List.append_nil]
 unfold gSortI
 rw [if_pos (by omega), Jb]
 unfold gCmpI
 rw [if_pos (by rw [List.length_mergeSort]; omega), Jb]
 refine ⟨_, rfl, ?_⟩
 have h := cmpL_lt (sorted l) (sorted_pw l)
 rw [Wm] at h
 exact h.trans (not_congr (Jae l).nodup_iff)
structure Good (l : List T_face_Likeness) : Prop where
 len : l.length ≤ 300
 rise : Rise l
 vec : ∀ x ∈ l, vecF x.Vec = 0
theorem likeF_get (l : List T_face_Likeness) (j : Nat) (h : j < l.length) (h0 : likeF l j = 0) : vecF l[j].Vec = 0 ∧ ∀ (i : Nat) (hi : i + 1 = j), l[i].Id < l[j].Id := by
 unfold likeF at h0
 rw [at_D h] at h0
 split at h0
 ·cases h0
 split at h0
 ·cases h0
 ·rename_i h1 h2
  refine ⟨h0, fun i hi => ?_⟩
  subst hi
  rw [show i + 1 - 1 = i from rfl, at_D (by omega)] at h2
  omega
theorem good_of (l : List T_face_Likeness) (hl : l.length ≤ 300) (h : Jai (likeF l) l.length 0 = 0) : Good l := by
 have hj := fun (j : Nat) (hj : j < l.length) => likeF_get l j hj (firstE_zero h j (Nat.zero_le _) (by omega))
 refine ⟨hl, List.pairwise_iff_getElem.2 ?_, fun x hx => ?_⟩
 ·have step : ∀ d i (hi : i < l.length) (hd : i + d + 1 < l.length), l[i].Id < l[i + d + 1].Id := by
   intro d
   induction d with
   | zero => intro i hi hd; exact (hj (i + 0 + 1) hd).2 i rfl
   | succ d ih =>
    intro i hi hd
    have h1 := ih i hi (by omega)
    have h2 := (hj (i + (d + 1) + 1) hd).2 (i + d + 1) rfl
    omega
  intro i j hi hj hij
  have := step (j - i - 1) i hi (by omega)
  simpa [show i + (j - i - 1) + 1 = j by omega] using this
 ·obtain ⟨j, hj', rfl⟩ := List.getElem_of_mem hx
  exact (hj j hj').1
def like (l : List T_face_Likeness) (id : Int) : T_face_Likeness := (l.find? (has id)).getD default
theorem any_idx {l : List T_face_Likeness} {id : Int} (h : l.any (has id) = true) : ∃ (k : Nat) (hk : k < l.length), idx (has id) l = k ∧ l[k] = like l id ∧ l[k].Id = id := by
 have h0 := idx_nn (has id) l
 rw [h] at h0
 unfold idx at h0 ⊢
 cases hf : l.findIdx? (has id) with
 | none => rw [hf] at h0; simp at h0
 | some k =>
  have h1 := List.findIdx?_eq_some_iff_getElem.1 hf
  obtain ⟨hk, h2, h3⟩ := h1
  refine ⟨k, hk, rfl, ?_, by simpa [has] using h2⟩
  unfold like
  have : l.find? (has id) = some l[k] := by
   rw [List.find?_eq_some_iff_getElem]
   exact ⟨h2, k, hk, rfl, fun j hj => by simpa using h3 j hj⟩
  rw [this]; rfl
theorem like_mem {l : List T_face_Likeness} {id : Int} (h : l.any (has id) = true) : like l id ∈ l := by
 obtain ⟨k, hk, _, h2, _⟩ := any_idx h
 rw [← h2]; exact List.getElem_mem hk
theorem idx_neg {l : List T_face_Likeness} {id : Int} : decide (idx (has id) l < 0) = !l.any (has id) := by
 rw [← idx_nn]
 by_cases h : idx (has id) l < 0
 ·rw [Qd h, Qh (by omega)]; rfl
 ·rw [Qh h, Qd (by omega)]; rfl
theorem Jbr {l : List T_face_Likeness} (hg : Good l) {id : Int} (h : l.any (has id) = true) : ∃ k : Nat, ∃ hk : k < l.length, Jbh l id = some ((k : Int), true) ∧ Jk l (k : Int) = some (like l id) ∧ Qb l id = some (k : Int) := by
 have := hg.len
 obtain ⟨i, b, h1, h2, h3⟩ := at_eq l id hg.rise (by omega)
 rw [h] at h2
 obtain ⟨k, hk, h4, h5, _⟩ := any_idx h
 refine ⟨k, hk, ?_, ?_, ?_⟩
 ·rw [h1, h2, h3 h2, h4]
 ·rw [J6 hk, h5]
 ·rw [likeAt_eq l id (by omega), h4]
theorem good_at_not {l : List T_face_Likeness} (hg : Good l) {id : Int} (h : l.any (has id) = false) : ∃ i : Int, Jbh l id = some (i, false) := by
 have := hg.len
 obtain ⟨i, b, h1, h2, h3⟩ := at_eq l id hg.rise (by omega)
 rw [h] at h2
 exact ⟨i, by rw [h1, h2]⟩
def dist (l : List T_face_Likeness) (id k : Int) : Int := farV (like l id).Vec (like l k).Vec
def addF (l : List T_face_Likeness) (id : Int) (s : List Int) (k : Int) : List Int := if k = id then s else s ++ [dist l id k]
theorem dist_bd {l : List T_face_Likeness} (hg : Good l) {id k : Int} (h1 : l.any (has id) = true) (h2 : l.any (has k) = true) : 0 ≤ dist l id k ∧ dist l id k ≤ 774192 := farV_bd _ _ (hg.vec _ (like_mem h1)) (hg.vec _ (like_mem h2))
theorem score_loop {l : List T_face_Likeness} (hg : Good l) (p : T_face_Person) (id : Int) (hp : p.Likes.length ≤ 17592186044000) (hid : l.any (has id) = true) (hk : ∀ k ∈ p.Likes, l.any (has k) = true) :
  Z1 l p id = Ww (p.Likes.foldl (addF l id) []) := by
 unfold Z1
 obtain ⟨n, hn, a1, a2, a3⟩ := Jbr hg hid
 rw [a1, Jb]
 refine Ja6 (F := fun next4 s => Jap l p id ((n : Int), true) next4 s.1 s.2) p.Likes (addF l id) Ww (fun k s => s.length ≤ k) (fun next k s hk' hs => ?_) (fun next s _ => ?_) [] (Nat.zero_le _)
 ·simp only [Jap]
  obtain ⟨m, hm, b1, b2, b3⟩ := Jbr hg (hk _ (List.getElem_mem hk'))
  unfold addF
  rw [Qd (by omega), Jj, J6 hk', Jb]
  by_cases he : p.Likes[k] = id
  ·rw [Qh (by simpa using he), Ji, if_pos he]
   simp only [Jb2]
   rw [Qi (by omega), Jb]
   exact ⟨rfl, by omega⟩
  ·rw [Qd he, Jj, if_neg he, b1, Jb, a2, Jb, b2, Jb, far_eq _ _ (hg.vec _ (like_mem hid)) (hg.vec _ (like_mem (hk _ (List.getElem_mem hk')))), Jb, W9 (by simp; omega), Jb]
   simp only [Jb2]
   rw [Qi (by omega), Jb]
   exact ⟨rfl, by simp; omega⟩
 ·simp only [Jap]
  rw [Qh (by omega), Ji]
theorem scoreOf_loop {l : List T_face_Likeness} (hg : Good l) (p : T_face_Person) (id : Int) (hp : p.Likes.length ≤ 17592186044000) (hid : l.any (has id) = true) (hk : ∀ k ∈ p.Likes, l.any (has k) = true) :
  Wf l p id = Jbk (p.Likes.foldl (addF l id) []) := by
 unfold Wf
 obtain ⟨n, hn, a1, a2, a3⟩ := Jbr hg hid
 refine Ja6 (F := fun next4 s => Jbn l p id next4 s.1 s.2) p.Likes (addF l id) Jbk (fun k s => s.length ≤ k) (fun next k s hk' hs => ?_) (fun next s _ => ?_) [] (Nat.zero_le _)
 ·simp only [Jbn]
  obtain ⟨m, hm, b1, b2, b3⟩ := Jbr hg (hk _ (List.getElem_mem hk'))
  unfold addF
  rw [Qd (by omega), Jj, J6 hk', Jb]
  by_cases he : p.Likes[k] = id
  ·rw [Qh (by simpa using he), Ji, if_pos he]
   simp only [Jcx]
   rw [Qi (by omega), Jb]
   exact ⟨rfl, by omega⟩
  ·rw [Qd he, Jj, if_neg he, b3, Jb, b2, Jb, a3, Jb, a2, Jb, R_FarOf_eq, far_eq _ _ (hg.vec _ (like_mem (hk _ (List.getElem_mem hk')))) (hg.vec _ (like_mem hid)), Jb, farV_symm, W9 (by simp; omega), Jb]
   simp only [Jcx]
   rw [Qi (by omega), Jb]
   exact ⟨rfl, by simp; omega⟩
 ·simp only [Jbn]
  rw [Qh (by omega), Ji]
theorem fars_all {l : List T_face_Likeness} (hg : Good l) (id : Int) (hid : l.any (has id) = true) : ∀ (ks s : List Int), (∀ k ∈ ks, l.any (has k) = true) → (∀ x ∈ s, 0 ≤ x ∧ x ≤ 774192) → (∀ x ∈ ks.foldl (addF l id) s, 0 ≤ x ∧ x ≤ 774192) ∧ (ks.foldl (addF l id) s).length ≤ s.length + ks.length
 | [], s, _, h => ⟨h, by simp⟩
 | k :: ks, s, hk, h => by
  rw [List.foldl_cons]
  have := fars_all hg id hid ks (addF l id s k) (fun k' h' => hk k' (List.mem_cons_of_mem _ h')) (by
   unfold addF
   split
   ·exact h
   ·intro x hx
    rcases List.mem_append.1 hx with hx | hx
    ·exact h x hx
    ·simp at hx; subst hx; exact dist_bd hg hid (hk k (by simp)))
  refine ⟨this.1, Nat.le_trans this.2 ?_⟩
  unfold addF
  split <;> simp <;> omega
theorem sum_loop (t : List Int) (ht : t.length ≤ 3) (hb : ∀ x ∈ t, 0 ≤ x ∧ x ≤ 774192) (h0 : 0 < t.length) : ∃ v, Zx (fun next3 s => Jaq t next3 s.1 s.2) (0, 0) = some v := by
 have h := Jaj (F := fun next3 s => Jaq t next3 s.1 s.2) (fun s : Int × Int => ∃ k : Nat, s.2 = k ∧ k ≤ t.length ∧ 0 ≤ s.1 ∧ s.1 ≤ k * 774192) (fun s => t.length - s.2.toNat) (fun _ => True) (by
  rintro ⟨x, _⟩ ⟨k, rfl, hk, h1, h2⟩
  simp only [Jaq]
  simp only at h1 h2
  rcases Nat.lt_or_ge k t.length with h | h
  ·have := hb _ (List.getElem_mem h)
   refine .inr ⟨(x + t[k], (k : Int) + 1), ⟨k + 1, by simp, by omega, by simp only; omega, by simp only; omega⟩, by simp only; omega, fun next => ?_⟩
   rw [Qd (by omega), Jj, J6 h, Jb, Qi (by omega), Jb, Qi (by omega), Jb]
  ·refine .inl ⟨x.tdiv (t.length : Int), trivial, fun next => ?_⟩
   rw [Qh (by omega), Ji]
   simp only [face_score_j2]
   rw [gQuo_ok (by omega) (by omega), Jb]) (0, 0) ⟨0, rfl, by omega, by simp, by simp⟩
 obtain ⟨v, h1, _⟩ := h
 exact ⟨v, h1⟩
theorem scores_j1 (s : List Int) (hl : s.length ≤ 17592186044000) (hb : ∀ x ∈ s, 0 ≤ x ∧ x ≤ 774192) : ∃ v, Ww s = some v ∧ Jbk s = some v := by
 unfold Ww Jbk gSortI
 rw [if_pos (by omega), Jb]
 show ∃ v, (J0 (Ux (sorted s) 0 (min 3 ((sorted s).length : Int))) fun t60 => _) = some v ∧ _
 rw [Wm]
 have hcut : Ux (sorted s) 0 (min 3 (s.length : Int)) = some ((sorted s).take (min 3 s.length)) := by
  rw [gCut_to (by rw [Wm]; omega)]
  congr 2
  omega
 rw [hcut, Jb]
 by_cases h0 : s.length = 0
 ·rw [Qd (by rw [List.length_take, Wm]; omega), Jj, Qd (by omega), Jj]
  exact ⟨_, rfl, rfl⟩
 ·rw [Qh (by rw [List.length_take, Wm]; omega), Ji, Qh (by omega), Ji, Jb]
  obtain ⟨v, hv⟩ := sum_loop ((sorted s).take (min 3 s.length)) (by rw [List.length_take]; omega) (fun x hx => hb x ((Jae s).mem_iff.1 (List.mem_of_mem_take hx))) (by rw [List.length_take, Wm]; omega)
  refine ⟨v, hv, ?_⟩
  show (J0 (Ux (sorted s) 0 (min ((sorted s).length : Int) 3)) fun t51 => _) = some v
  rw [Wm, Int.min_comm, hcut, Jb]
  exact hv
theorem scores {l : List T_face_Likeness} (hg : Good l) (p : T_face_Person) (id : Int) (hp : p.Likes.length ≤ 17592186044000) (hid : l.any (has id) = true) (hk : ∀ k ∈ p.Likes, l.any (has k) = true) :
  ∃ v, Z1 l p id = some v ∧ Wf l p id = some v := by
 rw [score_loop hg p id hp hid hk, scoreOf_loop hg p id hp hid hk]
 have h := fars_all hg id hid p.Likes [] hk (by simp)
 exact scores_j1 _ (by have := h.2; simp at this; omega) h.1
end Go.M

/- FacePeople in plain Lean, third part: people that are right. Conditions: few elements. -/
namespace Go.M
open Go.Md Go.Pl
set_option linter.unusedVariables false
theorem scanC {ρ : Type} {F : (Int → Option ρ) → Int → Option ρ} (n : Nat) (c : Nat → Int) (E : Int → ρ) (J : Option ρ) (step : ∀ (next : Int → Option ρ) (k : Nat), k < n → F next (k : Int) = if c k = 0 then next ((k : Int) + 1) else some (E (c k)))
  (last : ∀ next, F next (n : Int) = J) : Zx F 0 = if Jai c n 0 = 0 then J else some (E (Jai c n 0)) := by
 have h := up (F := F) n (fun k => if Jai c (n - k) k = 0 then J else some (E (Jai c (n - k) k))) (by
  intro next k hk ih
  by_cases h : k < n
  ·rw [step next k h, show n - k = (n - (k + 1)) + 1 from by omega]
   simp only [Jai]
   by_cases h0 : c k = 0
   ·simp only [h0, if_true]; rw [ih h]
   ·simp only [h0, if_false]
  ·have : k = n := by omega
   subst this
   rw [last, Nat.sub_self]; rfl)
 simpa using h
theorem ofStr_any (s : List UInt8) : (ofStr s).any (fun c => decide (c < 32)) = s.any fun c => decide (c.toNat < 32) := by
 unfold ofStr
 rw [List.any_map]
 congr 1
 funext c
 simp only [Function.comp]
 congr 1
 simp; omega
def titleB (s : List UInt8) : Bool := decide (1 ≤ s.length ∧ s.length ≤ 60) && !s.any fun c => decide (c.toNat < 32)
theorem isTitle_eq (s : List UInt8) : Jco s = some (titleB s) := by
 unfold Jco titleB
 rw [Wl, Jb]
 by_cases h : 1 ≤ s.length ∧ s.length ≤ 60
 ·rw [Qh (by omega), Bool.not_false, Jj, gByt_ok (by omega), Jb, containsByte_eq (ofStr s) face_isTitle_1 (fun c => decide (c < 32)) (by unfold ofStr; rw [List.length_map]; omega) (fun _ _ => rfl), Jb, ofStr_any, Qd h, Bool.true_and]
 ·rw [Qd (by omega), Bool.not_true, Ji, Qh h, Bool.false_and]
theorem TitleOk_eq (s : List UInt8) : R_TitleOk s = some (titleB s) := by
 unfold R_TitleOk titleB
 by_cases h1 : s.length < 1
 ·rw [Qd (by omega), Jj, Qh (by omega), Bool.false_and]
 ·rw [Qh (by omega), Ji]
  by_cases h2 : 60 < s.length
  ·rw [Qd (by omega), Jj, Qh (by omega), Bool.false_and]
  ·rw [Qh (by omega), Ji, Qd (by omega), Bool.true_and]
   have h := up (F := fun next1 s' => Jc2 s next1 s') s.length (fun k => some (!(s.drop k).any fun c => decide (c.toNat < 32))) (fun next k hk ih => by
    simp only [Jc2]
    rcases Nat.lt_or_ge k s.length with h | h
    ·rw [Qd (by omega), Jj, gOct_nat h, Jb, List.drop_eq_getElem_cons h, List.any_cons]
     by_cases hc : s[k].toNat < 32
     ·rw [Qd (by omega), Jj, Qd hc]; rfl
     ·rw [Qh (by omega), Ji, Qh hc, Qi (by omega), Jb, ih h, Bool.false_or]
    ·have : k = s.length := by omega
     subst this
     rw [Qh (by omega), Ji, List.drop_length]; rfl)
   simpa using h
def idsC (l : List T_face_Likeness) (ids : List Int) (k : Nat) : Int :=
 if l.any (has (ids.getD k 0)) = false then 7 else if 0 < k ∧ ids.getD k 0 ≤ ids.getD (k - 1) 0 then 5 else 0
def idsE (l : List T_face_Likeness) (ids : List Int) : Int := Jai (idsC l ids) ids.length 0
theorem at_D0 {l : List Int} {k : Nat} (h : k < l.length) : l.getD k 0 = l[k] := by
 rw [List.getD_eq_getElem?_getD, List.getElem?_eq_getElem h]; rfl
theorem idsC_get (l : List T_face_Likeness) (ids : List Int) (j : Nat) (h : j < ids.length) (h0 : idsC l ids j = 0) : l.any (has ids[j]) = true ∧ ∀ (i : Nat) (hi : i + 1 = j), ids[i] < ids[j] := by
 unfold idsC at h0
 rw [at_D0 h] at h0
 split at h0
 ·cases h0
 split at h0
 ·cases h0
 ·rename_i h1 h2
  refine ⟨by simpa using h1, fun i hi => ?_⟩
  subst hi
  rw [show i + 1 - 1 = i from rfl, at_D0 (by omega)] at h2
  omega
structure IdsOk (l : List T_face_Likeness) (ids : List Int) : Prop where
 all : ∀ k ∈ ids, l.any (has k) = true
 rise : ids.Pairwise fun x y => x < y
theorem ids_of {l : List T_face_Likeness} {ids : List Int} (h : idsE l ids = 0) : IdsOk l ids := by
 have hj := fun (j : Nat) (hj : j < ids.length) => idsC_get l ids j hj (firstE_zero h j (Nat.zero_le _) (by omega))
 refine ⟨fun x hx => ?_, List.pairwise_iff_getElem.2 ?_⟩
 ·obtain ⟨j, hj', rfl⟩ := List.getElem_of_mem hx
  exact (hj j hj').1
 ·have step : ∀ d i (hi : i < ids.length) (hd : i + d + 1 < ids.length), ids[i] < ids[i + d + 1] := by
   intro d
   induction d with
   | zero => intro i hi hd; exact (hj (i + 0 + 1) hd).2 i rfl
   | succ d ih =>
    intro i hi hd
    have h1 := ih i hi (by omega)
    have h2 := (hj (i + (d + 1) + 1) hd).2 (i + d + 1) rfl
    omega
  intro i j hi hj hij
  have := step (j - i - 1) i hi (by omega)
  simpa [show i + (j - i - 1) + 1 = j by omega] using this
theorem checkIds_eq {l : List T_face_Likeness} (hg : Good l) (ids : List Int) (hl : ids.length ≤ 17592186044000) : Jc5 l ids = some (idsE l ids) := by
 unfold Jc5 idsE
 refine scan ids.length _ (fun next k hk => ?_) fun next => ?_
 ·simp only [U0]
  unfold idsC
  rw [Qd (by omega), Jj, J6 hk, Jb, at_D0 hk]
  cases hany : l.any (has ids[k]) with
  | false =>
   obtain ⟨i, e⟩ := good_at_not hg hany
   rw [e, Jb]
   simp
  | true =>
   obtain ⟨n, hn, e, _⟩ := Jbr hg hany
   rw [e, Jb]
   have e2 : ∀ (x y : Option Int), Xg (!((n : Int), true).2) x y = y := fun _ _ => rfl
   have e3 : ∀ (x y : Int), (if true = false then x else y) = y := fun _ _ => if_neg (by simp)
   rw [e2, e3]
   unfold Jbu
   by_cases h0 : 0 < k
   ·rw [Qd (by omega), Jj, Qi (by omega), Jb, show (k : Int) - 1 = ((k - 1 : Nat) : Int) by omega, J6 (by omega), Jb, at_D0 (show k - 1 < ids.length by omega)]
    by_cases h1 : ids[k] ≤ ids[k - 1]
    ·rw [Qd h1, Jj, show (if 0 < k ∧ ids[k] ≤ ids[k - 1] then (5 : Int) else 0) = 5 from if_pos ⟨h0, h1⟩]; simp
    ·rw [Qh h1, Ji, show (if 0 < k ∧ ids[k] ≤ ids[k - 1] then (5 : Int) else 0) = 0 from if_neg (fun h => h1 h.2), Qi (by omega), Jb]; simp
   ·rw [Qh (by omega), Ji, show (if 0 < k ∧ ids[k] ≤ ids.getD (k - 1) 0 then (5 : Int) else 0) = 0 from if_neg (fun h => h0 h.1), Qi (by omega), Jb]; simp
 ·simp only [U0]
  rw [Qh (by omega), Ji]
theorem fault_ids {l : List T_face_Likeness} (hg : Good l) (ids : List Int) (hl : ids.length ≤ 17592186044000) (x : Int) (next8 : Int → Option Int) :
  Zx (fun next10 s => Wc l x next8 ids next10 s) 0 = if idsE l ids = 0 then U4 x next8 else some (idsE l ids) := by
 have h300 := hg.len
 refine scanC ids.length (idsC l ids) (fun e => e) _ (fun next k hk => ?_) fun next => ?_
 ·simp only [Wc]
  unfold idsC
  rw [Qd (by omega), Jj, J6 hk, Jb, at_D0 hk, likeAt_eq l _ (by omega), Jb, idx_neg]
  cases hany : l.any (has ids[k]) with
  | false => simp
  | true =>
   have e2 : ∀ (x y : Option Int), Xg (!true) x y = y := fun _ _ => rfl
   have e3 : ∀ (x y : Int), (if true = false then x else y) = y := fun _ _ => if_neg (by simp)
   rw [e2, e3]
   unfold Jax
   by_cases h0 : 0 < k
   ·rw [Qd (by omega), Jj, Qi (by omega), Jb, show (k : Int) - 1 = ((k - 1 : Nat) : Int) by omega, J6 (by omega), Jb, at_D0 (show k - 1 < ids.length by omega)]
    by_cases h1 : ids[k] ≤ ids[k - 1]
    ·rw [Qd h1, Jj, show (if 0 < k ∧ ids[k] ≤ ids[k - 1] then (5 : Int) else 0) = 5 from if_pos ⟨h0, h1⟩]; simp
    ·rw [Qh h1, Ji, show (if 0 < k ∧ ids[k] ≤ ids[k - 1] then (5 : Int) else 0) = 0 from if_neg (fun h => h1 h.2), Qi (by omega), Jb]; simp
   ·rw [Qh (by omega), Ji, show (if 0 < k ∧ ids[k] ≤ ids.getD (k - 1) 0 then (5 : Int) else 0) = 0 from if_neg (fun h => h0 h.1), Qi (by omega), Jb]; simp
 ·simp only [Wc]
  rw [Qh (by omega), Ji]
def both (p : T_face_Person) : Bool := p.Likes.any fun k => decide (k ∈ p.Nots)
def listE (l : List T_face_Likeness) (p : T_face_Person) : Int := if idsE l p.Likes ≠ 0 then idsE l p.Likes else if idsE l p.Nots ≠ 0 then idsE l p.Nots else if both p = true then 11 else 0
def Ua (l : List T_face_Likeness) (p : T_face_Person) : Int := if titleB p.Name = false then 3 else listE l p
def PSz (p : T_face_Person) : Prop := p.Likes.length ≤ 17592186044000 ∧ p.Nots.length ≤ 17592186044000
theorem checkPerson_eq {l : List T_face_Likeness} (hg : Good l) (p : T_face_Person) (hp : PSz p) : Jbs l p = some (Ua l p) := by
 unfold Jbs Ua listE
 rw [isTitle_eq, Jb]
 cases ht : titleB p.Name with
 | false => rfl
 | true =>
  simp only [Bool.not_true, Ji, Bool.true_eq_false, if_false]
  have e0 : ∀ next, Zh l p next 0 = if idsE l p.Likes ≠ 0 then some (idsE l p.Likes) else next 1 := fun next => by
   simp only [Zh]
   rw [Qd (by omega), Jj, show Jk [p.Likes, p.Nots] 0 = some p.Likes from rfl, Jb, checkIds_eq hg _ hp.1, Jb, cnd_if]
   split
   ·rfl
   ·rw [Qi (by omega), Jb]; rfl
  have e1 : ∀ next, Zh l p next 1 = if idsE l p.Nots ≠ 0 then some (idsE l p.Nots) else next 2 := fun next => by
   simp only [Zh]
   rw [Qd (by omega), Jj, show Jk [p.Likes, p.Nots] 1 = some p.Nots from rfl, Jb, checkIds_eq hg _ hp.2, Jb, cnd_if]
   split
   ·rfl
   ·rw [Qi (by omega), Jb]; rfl
  by_cases h0 : idsE l p.Likes ≠ 0
  ·rw [if_pos h0]; exact Q8 fun next => by rw [e0, if_pos h0]
  ·rw [if_neg h0]
   rw [Yr (1 : Int) fun next => by rw [e0, if_neg h0]]
   by_cases h1 : idsE l p.Nots ≠ 0
   ·rw [if_pos h1]; exact Q8 fun next => by rw [e1, if_pos h1]
   ·rw [if_neg h1]
    rw [Yr (2 : Int) fun next => by rw [e1, if_neg h1]]
    refine Q8 fun next => ?_
    simp only [Zh, Jby]
    rw [Qh (by omega), Ji, Jal p.Likes (Jah p) (fun k => decide (k ∈ p.Nots)) (by have := hp.1; omega) (fun x _ => by
     unfold Jah
     rw [Uo p.Nots x (ids_of (by simpa using h1)).rise (by have := hp.2; omega), Jb]), Jb]
    show Xg (both p) _ _ = _
    cases both p <;> rfl
theorem fault_person {l : List T_face_Likeness} (hg : Good l) (p : T_face_Person) (hp : PSz p) (x : Int) (mp : List (Int × Bool)) (next1 : (Int × (List (Int × Bool))) → Option Int) :
  Wx l x mp next1 p = if listE l p = 0 then Vi l x mp next1 p else some (listE l p) := by
 unfold Wx listE
 have e0 : ∀ next, Vk l x mp next1 p next 0 = if idsE l p.Likes ≠ 0 then some (idsE l p.Likes) else next 1 := fun next => by
  simp only [Vk]
  rw [Qd (by omega), Jj, show Jk [p.Likes, p.Nots] 0 = some p.Likes from rfl, Jb, fault_ids hg _ hp.1]
  simp only [U4]
  rw [Qi (by omega), Jb]
  by_cases h : idsE l p.Likes = 0 <;> simp [h]
 have e1 : ∀ next, Vk l x mp next1 p next 1 = if idsE l p.Nots ≠ 0 then some (idsE l p.Nots) else next 2 := fun next => by
  simp only [Vk]
  rw [Qd (by omega), Jj, show Jk [p.Likes, p.Nots] 1 = some p.Nots from rfl, Jb, fault_ids hg _ hp.2]
  simp only [U4]
  rw [Qi (by omega), Jb]
  by_cases h : idsE l p.Nots = 0 <;> simp [h]
 by_cases h0 : idsE l p.Likes ≠ 0
 ·rw [if_pos h0, if_neg h0]; exact Q8 fun next => by rw [e0, if_pos h0]
 ·rw [if_neg h0]
  rw [Yr (1 : Int) fun next => by rw [e0, if_neg h0]]
  by_cases h1 : idsE l p.Nots ≠ 0
  ·rw [if_pos h1, if_neg h1]; exact Q8 fun next => by rw [e1, if_pos h1]
  ·rw [if_neg h1]
   rw [Yr (2 : Int) fun next => by rw [e1, if_neg h1]]
   refine Q8 fun next => ?_
   simp only [Vk, Jc4]
   rw [Qh (by omega), Ji]
   have hsc := up (F := fun next7 s => U9 l x mp next1 p next7 s) p.Likes.length (fun k => if ((p.Likes.drop k).any fun k => decide (k ∈ p.Nots)) = true then some 11 else Vi l x mp next1 p) (fun next k hk ih => by
    simp only [U9]
    rcases Nat.lt_or_ge k p.Likes.length with h | h
    ·rw [Qd (by omega), Jj, J6 h, Jb, Ws p.Nots _ (by have := hp.2; omega), Jb, List.drop_eq_getElem_cons h, List.any_cons]
     by_cases hc : p.Likes[k] ∈ p.Nots
     ·rw [Qd hc, Jj]; rfl
     ·rw [Qh hc, Ji, Bool.false_or, Qi (by have := hp.1; omega), Jb, ih h]
    ·have : k = p.Likes.length := by omega
     subst this
     rw [Qh (by omega), Ji, List.drop_length]; rfl)
   rw [hsc, List.drop_zero]
   show (if both p = true then _ else _) = _
   cases both p <;> simp
theorem mGet_mSet (m : List (Int × Bool)) (k : Int) (v : Bool) (x : Int) : mGet (mSet m k v) x = if x = k then some v else mGet m x := by
 unfold mGet mSet mHas
 induction m with
 | nil =>
  by_cases h : x = k
  ·subst h; simp
  ·have : ¬ k = x := fun e => h e.symm
   simp [h, this]
 | cons a m ih =>
  by_cases ha : a.1 = k
  ·have e1 : ((a :: m).any fun p => decide (p.1 = k)) = true := by simp [ha]
   rw [if_pos e1, List.map_cons, if_pos ha, List.find?_cons, List.find?_cons]
   by_cases h : x = k
   ·subst h; simp
   ·have hk : ¬ k = x := fun e => h e.symm
    rw [Qh hk, if_neg h, Qh (show ¬ a.1 = x by rw [ha]; exact hk)]
    simp only
    clear ih e1
    induction m with
    | nil => rfl
    | cons b m ih2 =>
     rw [List.map_cons, List.find?_cons, List.find?_cons]
     by_cases hb : b.1 = k
     ·rw [if_pos hb, Qh hk, Qh (show ¬ b.1 = x by rw [hb]; exact hk)]; exact ih2
     ·rw [if_neg hb]
      by_cases hbx : b.1 = x
      ·rw [Qd hbx]
      ·rw [Qh hbx]; exact ih2
  ·have e1 : ((a :: m).any fun p => decide (p.1 = k)) = (m.any fun p => decide (p.1 = k)) := by simp [ha]
   rw [e1]
   by_cases hm : (m.any fun p => decide (p.1 = k)) = true
   ·rw [if_pos hm] at ih ⊢
    rw [List.map_cons, if_neg ha, List.find?_cons]
    by_cases hx : a.1 = x
    ·rw [Qd hx]
     have : ¬ x = k := fun e => ha (hx.trans e)
     rw [if_neg this, List.find?_cons, Qd hx]
    ·rw [Qh hx, List.find?_cons, Qh hx]; exact ih
   ·rw [if_neg hm] at ih ⊢
    rw [List.cons_append, List.find?_cons]
    by_cases hx : a.1 = x
    ·rw [Qd hx]
     have : ¬ x = k := fun e => ha (hx.trans e)
     rw [if_neg this, List.find?_cons, Qd hx]
    ·rw [Qh hx, List.find?_cons, Qh hx]; exact ih
def inM (m : List (Int × Bool)) (k : Int) : Bool := (mGet m k).getD false
def Z3 (m : List (Int × Bool)) (ks : List Int) : List (Int × Bool) := ks.foldl (fun m k => mSet m k true) m
theorem inM_set (m : List (Int × Bool)) (k x : Int) : inM (mSet m k true) x = (decide (x = k) || inM m x) := by
 unfold inM
 rw [mGet_mSet]
 by_cases h : x = k <;> simp [h]
theorem inM_nil (x : Int) : inM [] x = false := rfl
def Zi (l : List T_face_Likeness) (k : Int) : Int := (like l k).Photo
def Xw (l : List T_face_Likeness) (ks : List Int) : List Int := ks.map (Zi l)
theorem photoOf_eq {l : List T_face_Likeness} (hg : Good l) {k : Int} (h : l.any (has k) = true) : Jcu l k = some (Zi l k) := by
 unfold Jcu
 obtain ⟨n, hn, e1, e2, e3⟩ := Jbr hg h
 rw [e1, Jb, e2, Jb]; rfl
theorem photosOf_eq {l : List T_face_Likeness} (hg : Good l) (ks : List Int) (hl : ks.length ≤ 17592186044000) (h : ∀ k ∈ ks, l.any (has k) = true) : Jbz l ks = some (Xw l ks) := by
 unfold Jbz
 have e := Ja6 (F := fun next1 s => W0 l ks next1 s.1 s.2) ks (fun s k => s ++ [Zi l k]) (fun s => some s) (fun k s => s.length = k) (fun next k s hk hs => ?_) (fun next s _ => ?_) [] rfl
 ·rw [e]
  have : ∀ (ks s : List Int), ks.foldl (fun s k => s ++ [Zi l k]) s = s ++ Xw l ks := fun ks => by
   induction ks with
   | nil => intro s; simp [Xw]
   | cons k ks ih => intro s; rw [List.foldl_cons, ih]; simp [Xw]
  rw [this]; rfl
 ·simp only [W0]
  rw [Qd (by omega), Jj, J6 hk, Jb, photoOf_eq hg (h _ (List.getElem_mem hk)), Jb, W9 (by simp; omega), Jb, Qi (by omega), Jb]
  exact ⟨rfl, by simp; omega⟩
 ·simp only [W0]
  rw [Qh (by omega), Ji]
def twice (l : List T_face_Likeness) (mp : List (Int × Bool)) (ks : List Int) : Prop := (∃ k ∈ ks, inM mp k = true) ∨ ¬ (Xw l ks).Nodup
theorem twice_loop {l : List T_face_Likeness} (hg : Good l) (p : T_face_Person) (x : Int) (next1 : (Int × (List (Int × Bool))) → Option Int) (hl : p.Likes.length ≤ 17592186044000) (hall : ∀ k ∈ p.Likes, l.any (has k) = true) (hr : p.Likes.Pairwise fun x y => x < y) (mp : List (Int × Bool)) :
  (twice l mp p.Likes → Vi l x mp next1 p = some 6) ∧ (¬ twice l mp p.Likes → Vi l x mp next1 p = U2 x next1 (Z3 mp p.Likes)) := by
 unfold Vi
 have key : ∀ (n k : Nat) (m1 m2 : List (Int × Bool)), k ≤ p.Likes.length → p.Likes.length - k < n → (∀ y, (∀ i (h : i < p.Likes.length), i < k → p.Likes[i] ≠ y) → inM m1 y = inM mp y) →
   ((∃ q ∈ p.Likes.drop k, inM mp q = true) ∨ (∃ q ∈ p.Likes.drop k, inM m2 (Zi l q) = true) ∨ ¬ (Xw l (p.Likes.drop k)).Nodup → Zx (fun next6 s => Vj l x next1 p next6 s.1 s.2.1 s.2.2) ((k : Int), m1, m2) = some 6) ∧
   (¬ ((∃ q ∈ p.Likes.drop k, inM mp q = true) ∨ (∃ q ∈ p.Likes.drop k, inM m2 (Zi l q) = true) ∨ ¬ (Xw l (p.Likes.drop k)).Nodup) → Zx (fun next6 s => Vj l x next1 p next6 s.1 s.2.1 s.2.2) ((k : Int), m1, m2) = U2 x next1 (Z3 m1 (p.Likes.drop k))) := by
  intro n
  induction n with
  | zero => intro k m1 m2 _ h; omega
  | succ n ih =>
   intro k m1 m2 hk hn hm
   rcases Nat.lt_or_ge k p.Likes.length with h | h
   ·obtain ⟨i, hi, a1, a2, a3⟩ := Jbr hg (hall _ (List.getElem_mem h))
    have hpw := List.pairwise_iff_getElem.1 hr
    have hm1 : inM m1 p.Likes[k] = inM mp p.Likes[k] := hm _ fun i hi hik => by have := hpw i k hi h hik; omega
    have body : ∀ next, Vj l x next1 p next (k : Int) m1 m2 = if inM mp p.Likes[k] = true then some 6 else if inM m2 (Zi l p.Likes[k]) = true then some 6 else next ((k : Int) + 1, mSet m1 p.Likes[k] true, mSet m2 (Zi l p.Likes[k]) true) := fun next => by
     simp only [Vj]
     rw [Qd (by omega), Jj, J6 h, Jb, a3, Jb, a2, Jb]
     have u1 : (mGet m1 p.Likes[k]).getD false = inM mp p.Likes[k] := hm1
     have u2 : (mGet m2 (like l p.Likes[k]).Photo).getD false = inM m2 (Zi l p.Likes[k]) := rfl
     rw [u1, u2]
     have u3 : ∀ (b : Bool) (x y : Option Int), Xg b x y = if b = true then x else y := fun b _ _ => by cases b <;> rfl
     rw [u3, u3, Qi (by omega), Jb]
     rfl
    rw [List.drop_eq_getElem_cons h]
    by_cases c1 : inM mp p.Likes[k] = true
    ·refine ⟨fun _ => Q8 fun next => by rw [body, if_pos c1], fun hno => absurd (Or.inl ⟨_, List.mem_cons_self, c1⟩) hno⟩
    ·by_cases c2 : inM m2 (Zi l p.Likes[k]) = true
     ·refine ⟨fun _ => Q8 fun next => by rw [body, if_neg c1, if_pos c2], fun hno => absurd (Or.inr (Or.inl ⟨_, List.mem_cons_self, c2⟩)) hno⟩
     ·have := ih (k + 1) (mSet m1 p.Likes[k] true) (mSet m2 (Zi l p.Likes[k]) true) h (by omega) (fun y hy => by
       rw [inM_set, Qh (fun e => hy k h (by omega) e.symm), Bool.false_or]
       exact hm y fun i hi hik => hy i hi (by omega))
      rw [Yr ((k : Int) + 1, mSet m1 p.Likes[k] true, mSet m2 (Zi l p.Likes[k]) true) (fun next => by rw [body, if_neg c1, if_neg c2])]
      have eq : ((∃ q ∈ p.Likes[k] :: p.Likes.drop (k + 1), inM mp q = true) ∨ (∃ q ∈ p.Likes[k] :: p.Likes.drop (k + 1), inM m2 (Zi l q) = true) ∨ ¬ (Xw l (p.Likes[k] :: p.Likes.drop (k + 1))).Nodup) ↔
        ((∃ q ∈ p.Likes.drop (k + 1), inM mp q = true) ∨ (∃ q ∈ p.Likes.drop (k + 1), inM (mSet m2 (Zi l p.Likes[k]) true) (Zi l q) = true) ∨ ¬ (Xw l (p.Likes.drop (k + 1))).Nodup) := by
       have hnd : (Xw l (p.Likes[k] :: p.Likes.drop (k + 1))).Nodup ↔ (∀ q ∈ p.Likes.drop (k + 1), Zi l q ≠ Zi l p.Likes[k]) ∧ (Xw l (p.Likes.drop (k + 1))).Nodup := by
        unfold Xw
        rw [List.map_cons, List.nodup_cons]
        refine and_congr ⟨fun h q hq e => h (List.mem_map.2 ⟨q, hq, e⟩), fun h hm => ?_⟩ Iff.rfl
        obtain ⟨q, hq, e⟩ := List.mem_map.1 hm
        exact h q hq e
       constructor
       ·rintro (⟨q, hq, e⟩ | ⟨q, hq, e⟩ | e)
        ·rcases List.mem_cons.1 hq with rfl | hq
         ·exact absurd e c1
         ·exact .inl ⟨q, hq, e⟩
        ·rcases List.mem_cons.1 hq with rfl | hq
         ·exact absurd e c2
         ·exact .inr (.inl ⟨q, hq, by rw [inM_set, e, Bool.or_true]⟩)
        ·rw [hnd] at e
         rcases Classical.em (Xw l (p.Likes.drop (k + 1))).Nodup with e2 | e2
         ·have : ∃ q ∈ p.Likes.drop (k + 1), Zi l q = Zi l p.Likes[k] := Classical.byContradiction fun hno => e ⟨fun q hq he => hno ⟨q, hq, he⟩, e2⟩
          obtain ⟨q, hq, e⟩ := this
          exact .inr (.inl ⟨q, hq, by rw [inM_set, Qd e, Bool.true_or]⟩)
         ·exact .inr (.inr e2)
       ·rintro (⟨q, hq, e⟩ | ⟨q, hq, e⟩ | e)
        ·exact .inl ⟨q, List.mem_cons_of_mem _ hq, e⟩
        ·rw [inM_set, Bool.or_eq_true] at e
         rcases e with e | e
         ·exact .inr (.inr fun hh => (hnd.1 hh).1 q hq (by simpa using e))
         ·exact .inr (.inl ⟨q, List.mem_cons_of_mem _ hq, e⟩)
        ·exact .inr (.inr fun hh => e (hnd.1 hh).2)
      rw [eq]
      exact this
   ·have : k = p.Likes.length := by omega
    subst this
    rw [List.drop_length]
    refine ⟨fun h => ?_, fun _ => ?_⟩
    ·rcases h with ⟨q, hq, _⟩ | ⟨q, hq, _⟩ | h
     ·cases hq
     ·cases hq
     ·exact absurd List.Pairwise.nil h
    ·refine Q8 fun next => ?_
     simp only [Vj]
     rw [Qh (by omega), Ji]; rfl
 have := key (p.Likes.length + 1) 0 mp [] (Nat.zero_le _) (by omega) (fun y _ => rfl)
 rw [List.drop_zero] at this
 have eq : ((∃ q ∈ p.Likes, inM mp q = true) ∨ (∃ q ∈ p.Likes, inM [] (Zi l q) = true) ∨ ¬ (Xw l p.Likes).Nodup) ↔ twice l mp p.Likes := by
  unfold twice
  refine or_congr Iff.rfl ⟨fun h => ?_, .inr⟩
  rcases h with ⟨q, _, h⟩ | h
  ·rw [inM_nil] at h; cases h
  ·exact h
 rw [eq] at this
 exact this
theorem Jcf {l : List T_face_Likeness} (hg : Good l) (p : T_face_Person) (hp : PSz p) (x : Int) (next1 : (Int × (List (Int × Bool))) → Option Int) (mp : List (Int × Bool)) :
  (Ua l p ≠ 0 → X7 l x mp next1 p = some (Ua l p)) ∧
  (Ua l p = 0 → (twice l mp p.Likes → X7 l x mp next1 p = some 6) ∧ (¬ twice l mp p.Likes → X7 l x mp next1 p = J0 (gI (x + 1)) fun t77 => next1 (t77, Z3 mp p.Likes))) := by
 unfold X7
 rw [checkPerson_eq hg p hp, Jb]
 refine ⟨fun h => by rw [Qd h, Jj], fun h => ?_⟩
 have hids : IdsOk l p.Likes := by
  refine ids_of ?_
  unfold Ua listE at h
  by_cases h1 : idsE l p.Likes = 0
  ·exact h1
  ·rw [if_pos h1] at h
   split at h
   ·cases h
   ·exact h
 rw [Qh (by simpa using h), Ji, photosOf_eq hg _ hp.1 hids.all, Jb, Jal p.Likes (Jcc mp) (inM mp) (by have := hp.1; omega) (fun _ _ => rfl), Jb]
 obtain ⟨w, hw, hlt⟩ := with_eq (Xw l p.Likes) (by unfold Xw; rw [List.length_map]; have := hp.1; omega)
 have hany : (p.Likes.any (inM mp) = true) ↔ ∃ k ∈ p.Likes, inM mp k = true := List.any_eq_true
 constructor
 ·rintro (h1 | h1)
  ·rw [hany.2 h1, Jj]
  ·cases p.Likes.any (inM mp) with
   | true => rfl
   | false => rw [Ji, hw, Jb, Qd (by have := hlt.2 h1; omega), Jj]
 ·intro hno
  have h1 : p.Likes.any (inM mp) = false := by
   cases hc : p.Likes.any (inM mp) with
   | false => rfl
   | true => exact absurd (.inl (hany.1 hc)) hno
  have h2 : ¬ w.length < (Xw l p.Likes).length := fun h => hno (.inr (hlt.1 h))
  rw [h1, Ji, hw, Jb, Qh (by omega), Ji]
  have e := Ja6 (F := fun next4 s => Vs x next1 p (Xw l p.Likes) w next4 s.1 s.2) p.Likes (fun m k => mSet m k true) (fun m => J0 (gI (x + 1)) fun t77 => next1 (t77, m)) (fun _ _ => True) (fun next k s hk _ => ?_) (fun next s _ => ?_) mp trivial
  ·exact e
  ·simp only [Vs]
   rw [Qd (by omega), Jj, J6 hk, Jb, Qi (by have := hp.1; omega), Jb]
   exact ⟨rfl, trivial⟩
  ·simp only [Vs]
   rw [Qh (by omega), Ji]; rfl
structure Folk (l : List T_face_Likeness) (ps : List T_face_Person) : Prop where
 len : ps.length ≤ 100
 ids : ∀ p ∈ ps, IdsOk l p.Likes ∧ IdsOk l p.Nots
 rise : ps.Pairwise fun p q => p.Id < q.Id
theorem personE_ok {l : List T_face_Likeness} {p : T_face_Person} (h : Ua l p = 0) : IdsOk l p.Likes ∧ IdsOk l p.Nots := by
 unfold Ua at h
 split at h
 ·cases h
 unfold listE at h
 by_cases h1 : idsE l p.Likes = 0
 ·by_cases h2 : idsE l p.Nots = 0
  ·exact ⟨ids_of h1, ids_of h2⟩
  ·rw [if_neg (by simpa using h1), if_pos h2] at h; exact absurd h h2
 ·rw [if_pos h1] at h; exact absurd h h1
theorem people_eq {l : List T_face_Likeness} (hg : Good l) (ps : List T_face_Person) (hsz : ∀ p ∈ ps, PSz p) (hn : ps.length ≤ 9223372036854775000) :
  ∃ e, (e = 0 → Folk l ps) ∧ Jc7 l ps = some e ∧ (Xg (decide (100 < (ps.length : Int))) (some 4) (Zx (fun next1 s => Xe l ps next1 s.1 s.2) (0, ([] : (List (Int × Bool))))) : Option Int) = some e := by
 unfold Jc7
 by_cases hl : 100 < ps.length
 ·rw [Qd (by omega)]; exact ⟨4, fun h => absurd h (by decide), rfl, rfl⟩
 rw [Qh (by omega), Ji, Ji]
 have main := fix_sim (F := fun next1 s => Ya l ps next1 s.1 s.2) (G := fun next1 s => Xe l ps next1 s.1 s.2)
  (fun a b => a = b ∧ ∃ k : Nat, a.1 = k ∧ k ≤ ps.length ∧ (∀ i (h : i < ps.length), i < k → IdsOk l ps[i].Likes ∧ IdsOk l ps[i].Nots) ∧ (∀ i (h : i + 1 < ps.length), i + 1 < k → ps[i].Id < ps[i + 1].Id)) (fun a => ps.length - a.1.toNat) (fun e => e = 0 → Folk l ps)
  (by
   rintro ⟨_, mp⟩ _ ⟨rfl, k, rfl, hk, hI, hR⟩
   rcases Nat.lt_or_ge k ps.length with h | h
   ·generalize hp : ps[k] = p
    have hpm : p ∈ ps := hp ▸ List.getElem_mem h
    have hz := hsz p hpm
    have ord : (1 ≤ p.Id ∧ p.Id ≤ 1000000) → (0 < k ∧ ∃ h' : k - 1 < ps.length, p.Id ≤ ps[k - 1].Id) ∨ ((k = 0 ∨ ∃ h' : k - 1 < ps.length, ps[k - 1].Id < p.Id)) := fun _ => by
     rcases Nat.eq_zero_or_pos k with h0 | h0
     ·exact .inr (.inl h0)
     ·rcases Int.lt_or_le ps[k - 1].Id p.Id with h1 | h1
      ·exact .inr (.inr ⟨by omega, h1⟩)
      ·exact .inl ⟨h0, by omega, h1⟩
    by_cases hid : 1 ≤ p.Id ∧ p.Id ≤ 1000000
    ·rcases ord hid with ⟨h0, h', h1⟩ | hgood
     ·refine .inl ⟨5, fun h => absurd h (by decide), Q8 fun next => ?_, Q8 fun next => ?_⟩
      ·simp only [Ya]
       rw [Qd (by omega), Jj, J6 h, hp, Jb, idOk_eq, Jb, Qd hid, Bool.not_true, Ji, Qd (by omega), Jj, Qi (by omega), Jb, show (k : Int) - 1 = ((k - 1 : Nat) : Int) by omega, J6 h', Jb, Qd h1, Jj]
      ·simp only [Xe]
       rw [Qd (by omega), Jj, J6 h, hp, Jb, Wl, Jb, Qh (by omega), Ji, Qd (by omega), Jj, Qi (by omega), Jb, show (k : Int) - 1 = ((k - 1 : Nat) : Int) by omega, J6 h', Jb, Qd h1, Jj]
     ·have eR : ∀ next, Ya l ps next (k : Int) mp = J0 (R_TitleOk p.Name) fun t51_2 => Xg (!t51_2) (some 3) (Wx l (k : Int) mp next p) := fun next => by
       simp only [Ya]
       rw [Qd (by omega), Jj, J6 h, hp, Jb, idOk_eq, Jb, Qd hid, Bool.not_true, Ji]
       rcases hgood with h0 | ⟨h', h1⟩
       ·rw [Qh (by omega), Ji]
       ·by_cases h0 : 0 < k
        ·rw [Qd (by omega), Jj, Qi (by omega), Jb, show (k : Int) - 1 = ((k - 1 : Nat) : Int) by omega, J6 h', Jb, Qh (by omega), Ji]
        ·rw [Qh (by omega), Ji]
      have eC : ∀ next, Xe l ps next (k : Int) mp = X7 l (k : Int) mp next p := fun next => by
       simp only [Xe]
       rw [Qd (by omega), Jj, J6 h, hp, Jb, Wl, Jb, Qh (by omega), Ji]
       rcases hgood with h0 | ⟨h', h1⟩
       ·rw [Qh (by omega), Ji]
       ·by_cases h0 : 0 < k
        ·rw [Qd (by omega), Jj, Qi (by omega), Jb, show (k : Int) - 1 = ((k - 1 : Nat) : Int) by omega, J6 h', Jb, Qh (by omega), Ji]
        ·rw [Qh (by omega), Ji]
      have eR2 : ∀ next, Ya l ps next (k : Int) mp = if Ua l p = 0 then Vi l (k : Int) mp next p else some (Ua l p) := fun next => by
       rw [eR, TitleOk_eq, Jb, fault_person hg p hz]
       unfold Ua
       cases titleB p.Name <;> rfl
      by_cases hpe : Ua l p = 0
      ·have hok := personE_ok hpe
       by_cases ht : twice l mp p.Likes
       ·exact .inl ⟨6, fun h => absurd h (by decide), Q8 fun next => by show Ya l ps next (k : Int) mp = _; rw [eR2, if_pos hpe]; exact (twice_loop hg p _ next hz.1 hok.1.all hok.1.rise mp).1 ht, Q8 fun next => by show Xe l ps next (k : Int) mp = _; rw [eC]; exact ((Jcf hg p hz _ next mp).2 hpe).1 ht⟩
       ·refine .inr ⟨((k : Int) + 1, Z3 mp p.Likes), ((k : Int) + 1, Z3 mp p.Likes), ⟨rfl, k + 1, by simp, h, fun i hi hik => ?_, fun i hi hik => ?_⟩, by simp only; omega, Yr _ fun next => ?_, Yr _ fun next => ?_⟩
        ·rcases Nat.lt_or_ge i k with h3 | h3
         ·exact hI i hi h3
         ·have : i = k := by omega
          subst this; rw [hp]; exact hok
        ·rcases Nat.lt_or_ge (i + 1) k with h3 | h3
         ·exact hR i hi h3
         ·have : k = i + 1 := by omega
          subst this
          rcases hgood with h4 | ⟨h', h4⟩
          ·omega
          ·rw [← hp] at h4; exact h4
        ·show Ya l ps next (k : Int) mp = _
         rw [eR2, if_pos hpe, (twice_loop hg p _ next hz.1 hok.1.all hok.1.rise mp).2 ht]
         simp only [U2]
         rw [Qi (by omega), Jb]
        ·show Xe l ps next (k : Int) mp = _
         rw [eC, ((Jcf hg p hz _ next mp).2 hpe).2 ht, Qi (by omega), Jb]
      ·exact .inl ⟨Ua l p, fun h => absurd h hpe, Q8 fun next => by show Ya l ps next (k : Int) mp = _; rw [eR2, if_neg hpe], Q8 fun next => by show Xe l ps next (k : Int) mp = _; rw [eC]; exact (Jcf hg p hz _ next mp).1 hpe⟩
    ·refine .inl ⟨2, fun h => absurd h (by decide), Q8 fun next => ?_, Q8 fun next => ?_⟩
     ·simp only [Ya]
      rw [Qd (by omega), Jj, J6 h, hp, Jb, idOk_eq, Jb, Qh hid, Bool.not_false, Jj]
     ·simp only [Xe]
      rw [Qd (by omega), Jj, J6 h, hp, Jb, Wl, Jb, Qd (by omega), Jj]
   ·have : k = ps.length := by omega
    subst this
    refine .inl ⟨0, fun _ => ⟨by omega, fun p hp => ?_, List.pairwise_iff_getElem.2 ?_⟩, Q8 fun next => ?_, Q8 fun next => ?_⟩
    ·obtain ⟨j, hj, rfl⟩ := List.getElem_of_mem hp
     exact hI j hj hj
    ·have step : ∀ d i (hi : i < ps.length) (hd : i + d + 1 < ps.length), ps[i].Id < ps[i + d + 1].Id := by
      intro d
      induction d with
      | zero => intro i hi hd; exact hR i hd hd
      | succ d ih =>
       intro i hi hd
       have h1 := ih i hi (by omega)
       have h2 : ps[i + d + 1].Id < ps[i + (d + 1) + 1].Id := hR (i + d + 1) hd hd
       omega
     intro i j hi hj hij
     have := step (j - i - 1) i hi (by omega)
     simpa [show i + (j - i - 1) + 1 = j by omega] using this
    ·simp only [Ya]
     rw [Qh (by omega), Ji]
    ·simp only [Xe]
     rw [Qh (by omega), Ji])
  (0, []) (0, []) ⟨rfl, 0, rfl, Nat.zero_le _, fun i _ h => by omega, fun i _ h => by omega⟩
 obtain ⟨e, h1, h2, h3⟩ := main
 exact ⟨e, h1, h2, h3⟩
end Go.M

/- Matches, in plain Lean. Conditions: few elements. -/
namespace Go.M
open Go.Md Go.Pl
set_option linter.unusedVariables false
def cI (a b : Int) : Int := if a < b then -1 else if b < a then 1 else 0
theorem cI_lt (a b : Int) : cI a b < 0 ↔ a < b := by unfold cI; repeat' split <;> omega
theorem cI_gt (a b : Int) : 0 < cI a b ↔ b < a := by unfold cI; repeat' split <;> omega
theorem cI_0 (a b : Int) : cI a b = 0 ↔ a = b := by unfold cI; repeat' split <;> omega
theorem Ja7 (a b : Int) : cmp_Compare_int a b = some (cI a b) := by
 unfold cmp_Compare_int Wv cI
 simp only [Jb, ne_eq, not_true_eq_false, decide_false, Ji]
 by_cases h1 : a < b
 ·simp [h1]
 ·by_cases h2 : b < a <;> simp [h1, h2]
theorem or_eq (p s : Int) : W2 [p, s] = some (if p = 0 then s else p) := by
 unfold W2
 by_cases h : p = 0
 ·subst h
  rw [Yr (b := (1 : Int)) (fun next => by simp [Q4, Jk, gI])]
  by_cases h2 : s = 0
  ·subst h2
   rw [Yr (b := (2 : Int)) (fun next => by simp [Q4, Jk, gI])]
   rw [Q8 (o := some 0) (fun next => by simp [Q4])]
   rfl
  ·rw [Q8 (o := some s) (fun next => by simp [Q4, Jk, h2])]
   simp
 ·rw [Q8 (o := some p) (fun next => by simp [Q4, Jk, h])]
  simp [h]
def cM (x y : T_face_Match) : Int := if cI x.Far y.Far = 0 then cI x.Person y.Person else cI x.Far y.Far
theorem cmp1_eq (x y : T_face_Match) : Z8 x y = some (cM x y) := by
 unfold Z8
 rw [Ja7, Jb, Ja7, Jb, or_eq, Jb]; rfl
theorem cM_le (x y : T_face_Match) : cM x y ≤ 0 ↔ x.Far < y.Far ∨ x.Far = y.Far ∧ x.Person ≤ y.Person := by
 unfold cM
 have h1 := cI_lt x.Far y.Far
 have h2 := cI_gt x.Far y.Far
 have h3 := cI_0 x.Far y.Far
 have h4 := cI_lt x.Person y.Person
 have h5 := cI_gt x.Person y.Person
 split <;> omega
theorem cM_0 (x y : T_face_Match) : cM x y = 0 ↔ x.Far = y.Far ∧ x.Person = y.Person := by
 unfold cM
 have h3 := cI_0 x.Far y.Far
 have h4 := cI_0 x.Person y.Person
 split <;> omega
theorem cM_lt (x y : T_face_Match) : cM x y < 0 ↔ x.Far < y.Far ∨ x.Far = y.Far ∧ x.Person < y.Person := by
 have h1 := cM_le x y
 have h2 := cM_0 x y
 omega
theorem cmpOk : CmpOk Z8 where
 tot x y := ⟨_, cmp1_eq x y⟩
 flip x y := by
  rw [cmp1_eq, cmp1_eq]
  have h1 := cM_lt x y
  have h2 := cM_le y x
  simp only [Option.getD_some]
  omega
 trans x y z := by
  rw [cmp1_eq, cmp1_eq, cmp1_eq]
  simp only [Option.getD_some]
  rw [cM_le, cM_le, cM_le]
  omega
 anti x y := by
  rw [cmp1_eq]
  simp only [Option.getD_some]
  rw [cM_0]
  rintro ⟨h1, h2⟩
  cases x; cases y
  simp at h1 h2
  subst h1 h2; rfl
theorem cf_far : Go.StP.Cf (fun m : T_face_Match => m.Far) R_matches_1 := fun x y => ⟨cI x.Far y.Far, by unfold R_matches_1; rw [Ja7, Jb], cI_lt _ _⟩
theorem sorts (out : List T_face_Match) (hl : out.length ≤ 100) (hs : out.Pairwise fun x y => x.Person < y.Person) : ∃ r, gSortF out Z8 = some r ∧ Ys out R_matches_1 = some r ∧ r.length = out.length := by
 obtain ⟨r, h1, h2, h3⟩ := Go.StP.stable_ok (key := fun m : T_face_Match => m.Far) (tie := fun m : T_face_Match => m.Person) cf_far out (hs.imp fun {x y} h => (fun _ => h : Go.StP.stb (fun m : T_face_Match => m.Far) (fun m : T_face_Match => m.Person) x y)) (by omega)
 refine ⟨r, ?_, h1, h2.length_eq⟩
 unfold gSortF
 rw [if_pos ⟨by omega, cmpOk⟩, sortF_is cmpOk h2]
 refine h3.imp fun {x y} h => ?_
 unfold leC
 rw [cmp1_eq, Option.getD_some, decide_eq_true_iff, cM_le]
 unfold Go.StP.lt3 at h
 rcases h with h | ⟨h, h'⟩
 ·exact .inl h
 ·have h2 : x.Person < y.Person := h'
  exact .inr ⟨h, by omega⟩
theorem Ja4 {l : List T_face_Likeness} (hg : Good l) (p : T_face_Person) (id : Int) (hp : p.Likes.length ≤ 17592186044000) (hid : l.any (has id) = true) (hall : ∀ k ∈ p.Likes, l.any (has k) = true) :
  V6 l p id = some (decide (Zi l id ∈ Xw l p.Likes)) := by
 unfold V6
 rw [photosOf_eq hg _ hp hall, Jb, photoOf_eq hg hid, Jb, Ws _ _ (by unfold Xw; rw [List.length_map]; omega), Jb]
theorem Jca {l : List T_face_Likeness} (hg : Good l) (p : T_face_Person) (ph : Int) (hp : p.Likes.length ≤ 17592186044000) (hall : ∀ k ∈ p.Likes, l.any (has k) = true) :
  Wg l p ph = some (decide (ph ∈ Xw l p.Likes)) := by
 unfold Wg
 rw [Jal p.Likes (R_InPhoto_1 l ph) (fun k => decide (Zi l k = ph)) (by omega) (fun k hk => by
  unfold R_InPhoto_1
  obtain ⟨n, hn, a1, a2, a3⟩ := Jbr hg (hall k hk)
  rw [a3, Jb, a2, Jb]; rfl), Jb]
 congr 1
 rw [Bool.eq_iff_iff, List.any_eq_true, decide_eq_true_iff]
 unfold Xw
 rw [List.mem_map]
 constructor
 ·rintro ⟨k, hk, h⟩; exact ⟨k, hk, by simpa using h⟩
 ·rintro ⟨k, hk, h⟩; exact ⟨k, hk, by simpa using h⟩
theorem owner_eq {l : List T_face_Likeness} {ps : List T_face_Person} (hf : Folk l ps) (hsz : ∀ p ∈ ps, PSz p) (id : Int) : ∃ n, Ut ps id = some n ∧ Jbm ps id = some n := by
 have := hf.len
 refine ⟨idx (fun p => decide (id ∈ p.Likes)) ps, ?_, ?_⟩
 ·unfold Ut
  rw [Jcm ps (Jbt id) (fun p => decide (id ∈ p.Likes)) (by omega) (fun p hp => by
   unfold Jbt
   rw [Uo _ _ (hf.ids p hp).1.rise (by have := (hsz p hp).1; omega), Jb]), Jb]
 ·unfold Jbm
  rw [Jcm ps (R_OwnerOf_1 id) (fun p => decide (id ∈ p.Likes)) (by omega) (fun p hp => by
   unfold R_OwnerOf_1
   rw [Ws _ _ (by have := (hsz p hp).1; omega), Jb]), Jb]
def could (l : List T_face_Likeness) (id : Int) (p : T_face_Person) : Bool := decide (0 < p.Likes.length) && (!decide (id ∈ p.Nots) && !decide (Zi l id ∈ Xw l p.Likes))
noncomputable def mk (l : List T_face_Likeness) (id : Int) (p : T_face_Person) : T_face_Match := ⟨p.Id, (Z1 l p id).getD 0⟩
noncomputable def addM (l : List T_face_Likeness) (id : Int) (s : List T_face_Match) (p : T_face_Person) : List T_face_Match := if could l id p = true then s ++ [mk l id p] else s
theorem addM_all (l : List T_face_Likeness) (id : Int) : ∀ (ps : List T_face_Person) (s : List T_face_Match), ps.foldl (addM l id) s = s ++ (ps.filter (could l id)).map (mk l id)
 | [], s => by simp
 | p :: ps, s => by
  rw [List.foldl_cons, addM_all l id ps]
  unfold addM
  by_cases h : could l id p = true
  ·rw [if_pos h, List.filter_cons, if_pos h]; simp
  ·rw [if_neg h, List.filter_cons, if_neg h]
theorem matches_eq {l : List T_face_Likeness} (hg : Good l) {ps : List T_face_Person} (hf : Folk l ps) (hsz : ∀ p ∈ ps, PSz p) (id : Int) (hid : l.any (has id) = true) :
  ∃ r, Jba l ps id = some r ∧ R_matches l ps id = some r := by
 have h100 := hf.len
 obtain ⟨out, hout⟩ : ∃ out, out = ps.foldl (addM l id) [] := ⟨_, rfl⟩
 have e1 := addM_all l id ps []
 rw [← hout, List.nil_append] at e1
 have hl : out.length ≤ 100 := by rw [e1, List.length_map]; exact Nat.le_trans (List.length_filter_le _ _) hf.len
 have hpw : out.Pairwise fun x y => x.Person < y.Person := by
  rw [e1, List.pairwise_map]
  exact List.Pairwise.sublist List.filter_sublist hf.rise
 obtain ⟨r, h1, h2, h3⟩ := sorts out hl hpw
 obtain ⟨n, hn, b1, b2, b3⟩ := Jbr hg hid
 refine ⟨r, ?_, ?_⟩
 ·unfold Jba
  have e := Ja6 (F := fun next2 s => Va l ps id next2 s.1 s.2) ps (addM l id) Ud (fun k s => s.length ≤ k) (fun next k s hk hs => ?_) (fun next s _ => ?_) [] (Nat.zero_le _)
  ·rw [e, ← hout]
   unfold Ud
   rw [h1, Jb]
  ·simp only [Va, Wj]
   have hp := hf.ids _ (List.getElem_mem hk)
   have hz := hsz _ (List.getElem_mem hk)
   generalize hpk : ps[k] = p at *
   obtain ⟨v, hv, _⟩ := scores hg p id hz.1 hid hp.1.all
   have g1 : gI ((k : Int) + 1) = some ((k : Int) + 1) := Qi (by omega)
   have g2 : gApp 16 s [(⟨p.Id, v⟩ : T_face_Match)] = some (s ++ [⟨p.Id, v⟩]) := W9 (by simp; omega)
   rw [Qd (by omega), Jj, J6 hk, Jb, hpk, Uo _ _ hp.2.rise (by have := hz.2; omega), Jb, Ja4 hg p id hz.1 hid hp.1.all, Jb, hv, Jb, g2, Jb, g1, Jb, Jb]
   unfold addM could mk
   rw [hv]
   by_cases c1 : 0 < p.Likes.length
   ·rw [Qd (by omega), Qd c1, Jj, Bool.true_and]
    by_cases c2 : id ∈ p.Nots
    ·rw [Qd c2]
     exact ⟨rfl, by simp; omega⟩
    ·rw [Qh c2]
     by_cases c3 : Zi l id ∈ Xw l p.Likes
     ·rw [Qd c3]
      exact ⟨rfl, by simp; omega⟩
     ·rw [Qh c3]
      exact ⟨rfl, by simp; omega⟩
   ·rw [Qh (by omega), Qh c1, Ji, Bool.false_and]
    exact ⟨rfl, by simp; omega⟩
  ·simp only [Va]
   rw [Qh (by omega), Ji]
 ·unfold R_matches
  have e := Ja6 (F := fun next2 s => Jbo l ps id next2 s.1 s.2) ps (addM l id) R_matches_j1 (fun k s => s.length ≤ k) (fun next k s hk hs => ?_) (fun next s _ => ?_) [] (Nat.zero_le _)
  ·rw [e, ← hout]
   unfold R_matches_j1
   rw [h2, Jb]
  ·simp only [Jbo, Jbp]
   have hp := hf.ids _ (List.getElem_mem hk)
   have hz := hsz _ (List.getElem_mem hk)
   generalize hpk : ps[k] = p at *
   obtain ⟨v, hv, hv'⟩ := scores hg p id hz.1 hid hp.1.all
   have g1 : gI ((k : Int) + 1) = some ((k : Int) + 1) := Qi (by omega)
   have g2 : gApp 16 s [(⟨p.Id, v⟩ : T_face_Match)] = some (s ++ [⟨p.Id, v⟩]) := W9 (by simp; omega)
   rw [Qd (by omega), Jj, J6 hk, Jb, hpk, Ws _ _ (by have := hz.2; omega), Jb, b3, Jb, b2, Jb, Jca hg p _ hz.1 hp.1.all, Jb, hv', Jb, g2, Jb, g1, Jb, Jb]
   unfold addM could mk
   rw [hv]
   by_cases c1 : 0 < p.Likes.length
   ·rw [Qd (by omega), Qd c1, Jj, Bool.true_and]
    by_cases c2 : id ∈ p.Nots
    ·rw [Qd c2]
     exact ⟨rfl, by simp; omega⟩
    ·rw [Qh c2]
     by_cases c3 : Zi l id ∈ Xw l p.Likes
     ·rw [Qd c3, Qd (show (like l id).Photo ∈ Xw l p.Likes from c3)]
      exact ⟨rfl, by simp; omega⟩
     ·rw [Qh c3, Qh (show ¬ (like l id).Photo ∈ Xw l p.Likes from c3)]
      exact ⟨rfl, by simp; omega⟩
   ·rw [Qh (by omega), Qh c1, Ji, Bool.false_and]
    exact ⟨rfl, by simp; omega⟩
  ·simp only [Jbo]
   rw [Qh (by omega), Ji]
end Go.M

/- FaceSuggests in plain Lean: people that are right stay so. Conditions: few elements. -/
namespace Go.M
open Go.Md Go.Pl
set_option linter.unusedVariables false
theorem score_j1 (s : List Int) (hl : s.length ≤ 17592186044000) (hb : ∀ x ∈ s, 0 ≤ x ∧ x ≤ 774192) : ∃ v, Ww s = some v := by
 unfold Ww gSortI
 rw [if_pos (by omega), Jb]
 show ∃ v, (J0 (Ux (sorted s) 0 (min 3 ((sorted s).length : Int))) fun t60 => _) = some v
 rw [Wm]
 have hcut : Ux (sorted s) 0 (min 3 (s.length : Int)) = some ((sorted s).take (min 3 s.length)) := by
  rw [gCut_to (by rw [Wm]; omega)]
  congr 2
  omega
 rw [hcut, Jb]
 by_cases h0 : s.length = 0
 ·rw [Qd (by rw [List.length_take, Wm]; omega), Jj]
  exact ⟨_, rfl⟩
 ·rw [Qh (by rw [List.length_take, Wm]; omega), Ji]
  exact sum_loop ((sorted s).take (min 3 s.length)) (by rw [List.length_take]; omega) (fun x hx => hb x ((Jae s).mem_iff.1 (List.mem_of_mem_take hx))) (by rw [List.length_take, Wm]; omega)
theorem score_one {l : List T_face_Likeness} (hg : Good l) (p : T_face_Person) (id : Int) (hp : p.Likes.length ≤ 17592186044000) (hid : l.any (has id) = true) (hk : ∀ k ∈ p.Likes, l.any (has k) = true) : ∃ v, Z1 l p id = some v := by
 rw [score_loop hg p id hp hid hk]
 have h := fars_all hg id hid p.Likes [] hk (by simp)
 exact score_j1 _ (by have := h.2; simp at this; omega) h.1
noncomputable def Jat (l : List T_face_Likeness) (ps : List T_face_Person) (id : Int) : List T_face_Match := ((ps.filter (could l id)).map (mk l id)).mergeSort (leC Z8)
theorem fmatches_eq {l : List T_face_Likeness} (hg : Good l) {ps : List T_face_Person} (h100 : ps.length ≤ 100) (hf : ∀ p ∈ ps, IdsOk l p.Likes ∧ IdsOk l p.Nots) (hsz : ∀ p ∈ ps, PSz p) (id : Int) (hid : l.any (has id) = true) : Jba l ps id = some (Jat l ps id) := by
 obtain ⟨out, hout⟩ : ∃ out, out = ps.foldl (addM l id) [] := ⟨_, rfl⟩
 have e1 := addM_all l id ps []
 rw [← hout, List.nil_append] at e1
 have hl : out.length ≤ 100 := by rw [e1, List.length_map]; exact Nat.le_trans (List.length_filter_le _ _) h100
 unfold Jba
 have e := Ja6 (F := fun next2 s => Va l ps id next2 s.1 s.2) ps (addM l id) Ud (fun k s => s.length ≤ k) (fun next k s hk hs => ?_) (fun next s _ => ?_) [] (Nat.zero_le _)
 ·rw [e, ← hout]
  unfold Ud gSortF Jat
  rw [if_pos ⟨by omega, cmpOk⟩, Jb, e1]
 ·simp only [Va, Wj]
  have hp := hf _ (List.getElem_mem hk)
  have hz := hsz _ (List.getElem_mem hk)
  generalize hpk : ps[k] = p at *
  obtain ⟨v, hv⟩ := score_one hg p id hz.1 hid hp.1.all
  have g1 : gI ((k : Int) + 1) = some ((k : Int) + 1) := Qi (by omega)
  have g2 : gApp 16 s [(⟨p.Id, v⟩ : T_face_Match)] = some (s ++ [⟨p.Id, v⟩]) := W9 (by simp; omega)
  rw [Qd (by omega), Jj, J6 hk, Jb, hpk, Uo _ _ hp.2.rise (by have := hz.2; omega), Jb, Ja4 hg p id hz.1 hid hp.1.all, Jb, hv, Jb, g2, Jb, g1, Jb, Jb]
  unfold addM could mk
  rw [hv]
  by_cases c1 : 0 < p.Likes.length
  ·rw [Qd (by omega), Qd c1, Jj, Bool.true_and]
   by_cases c2 : id ∈ p.Nots
   ·rw [Qd c2]
    exact ⟨rfl, by simp; omega⟩
   ·rw [Qh c2]
    by_cases c3 : Zi l id ∈ Xw l p.Likes
    ·rw [Qd c3]
     exact ⟨rfl, by simp; omega⟩
    ·rw [Qh c3]
     exact ⟨rfl, by simp; omega⟩
  ·rw [Qh (by omega), Qh c1, Ji, Bool.false_and]
   exact ⟨rfl, by simp; omega⟩
 ·simp only [Va]
  rw [Qh (by omega), Ji]
theorem match_mem {l : List T_face_Likeness} {ps : List T_face_Person} {id : Int} {m : T_face_Match} (h : m ∈ Jat l ps id) : ∃ p ∈ ps, could l id p = true ∧ m = mk l id p := by
 have h1 := (List.mergeSort_perm _ _).mem_iff.1 h
 obtain ⟨p, hp, rfl⟩ := List.mem_map.1 h1
 have := List.mem_filter.1 hp
 exact ⟨p, this.1, this.2, rfl⟩
structure PersonOk (l : List T_face_Likeness) (p : T_face_Person) : Prop where
 idr : 1 ≤ p.Id ∧ p.Id ≤ 1000000
 title : titleB p.Name = true
 likes : IdsOk l p.Likes
 nots : IdsOk l p.Nots
 apart : ∀ k ∈ p.Likes, k ∉ p.Nots
 photos : (Xw l p.Likes).Nodup
structure Right (l : List T_face_Likeness) (ps : List T_face_Person) : Prop where
 len : ps.length ≤ 100
 all : ∀ p ∈ ps, PersonOk l p
 rise : ps.Pairwise fun p q => p.Id < q.Id
 own : ps.Pairwise fun p q => ∀ k ∈ p.Likes, k ∉ q.Likes
theorem idsE_ok {l : List T_face_Likeness} {ids : List Int} (h : IdsOk l ids) : idsE l ids = 0 := by
 unfold idsE
 refine firstE_all _ _ fun j _ hj => ?_
 have hj : j < ids.length := by omega
 unfold idsC
 rw [at_D0 hj, h.all _ (List.getElem_mem hj)]
 rw [if_neg (by simp), if_neg]
 rintro ⟨h0, h1⟩
 rw [at_D0 (show j - 1 < ids.length by omega)] at h1
 have := List.pairwise_iff_getElem.1 h.rise (j - 1) j (by omega) hj (by omega)
 omega
theorem personE_iff {l : List T_face_Likeness} {p : T_face_Person} : Ua l p = 0 ↔ titleB p.Name = true ∧ IdsOk l p.Likes ∧ IdsOk l p.Nots ∧ ∀ k ∈ p.Likes, k ∉ p.Nots := by
 constructor
 ·intro h
  have h2 := personE_ok h
  unfold Ua at h
  cases ht : titleB p.Name with
  | false => rw [ht] at h; simp at h
  | true =>
   rw [ht, if_neg (by simp)] at h
   refine ⟨rfl, h2.1, h2.2, fun k hk hn => ?_⟩
   unfold listE at h
   rw [if_neg (by rw [idsE_ok h2.1]; simp), if_neg (by rw [idsE_ok h2.2]; simp)] at h
   have : both p = true := by
    unfold both
    rw [List.any_eq_true]
    exact ⟨k, hk, by simpa using hn⟩
   rw [if_pos this] at h
   cases h
 ·rintro ⟨h1, h2, h3, h4⟩
  unfold Ua listE
  rw [if_neg (by rw [h1]; simp), if_neg (by rw [idsE_ok h2]; simp), if_neg (by rw [idsE_ok h3]; simp), if_neg]
  intro hb
  unfold both at hb
  rw [List.any_eq_true] at hb
  obtain ⟨k, hk, hn⟩ := hb
  exact h4 k hk (by simpa using hn)
theorem inM_setAll (ks : List Int) : ∀ (m : List (Int × Bool)) (x : Int), inM (Z3 m ks) x = (decide (x ∈ ks) || inM m x) := by
 induction ks with
 | nil => intro m x; simp [Z3]
 | cons k ks ih =>
  intro m x
  show inM (Z3 (mSet m k true) ks) x = _
  rw [ih, inM_set]
  by_cases h1 : x = k
  ·subst h1; simp
  ·by_cases h2 : x ∈ ks <;> simp [h1, h2]
theorem check_right {l : List T_face_Likeness} (hg : Good l) (hc : V3 l = some 0) (ps : List T_face_Person) (hsz : ∀ p ∈ ps, PSz p) (hn : ps.length ≤ 9223372036854775000) : ∃ e, Yn l ps = some e ∧ (e = 0 ↔ Right l ps) := by
 unfold Yn
 rw [hc, Jb, Qh (by simp), Ji]
 by_cases hl : 100 < ps.length
 ·rw [Qd (by omega), Jj]
  exact ⟨4, rfl, fun h => absurd h (by decide), fun h => by have := h.len; omega⟩
 rw [Qh (by omega), Ji]
 refine Jaj (F := fun next1 s => Xe l ps next1 s.1 s.2)
  (fun s : Int × List (Int × Bool) => ∃ k : Nat, s.1 = k ∧ k ≤ ps.length ∧ (∀ i (h : i < ps.length), i < k → PersonOk l ps[i]) ∧ (∀ i (h : i + 1 < ps.length), i + 1 < k → ps[i].Id < ps[i + 1].Id) ∧
   (∀ i j (hi : i < ps.length) (hj : j < ps.length), i < j → j < k → ∀ x ∈ ps[i].Likes, x ∉ ps[j].Likes) ∧ ∀ x, inM s.2 x = true ↔ ∃ i, ∃ h : i < ps.length, i < k ∧ x ∈ ps[i].Likes)
  (fun s => ps.length - s.1.toNat) (fun e => e = 0 ↔ Right l ps) ?_ (0, []) ⟨0, rfl, Nat.zero_le _, fun i _ h => by omega, fun i _ h => by omega, fun i j _ _ _ h => by omega, fun x => ⟨fun h => (by rw [inM_nil] at h; cases h), fun ⟨i, _, h, _⟩ => by omega⟩⟩
 rintro ⟨_, mp⟩ ⟨k, rfl, hk, hP, hR, hO, hM⟩
 simp only at hM
 simp only [Xe]
 rcases Nat.lt_or_ge k ps.length with h | h
 ·have hz := hsz _ (List.getElem_mem h)
  by_cases hid : 1 ≤ ps[k].Id ∧ ps[k].Id ≤ 1000000
  ·by_cases hord : 0 < k ∧ ∃ h' : k - 1 < ps.length, ps[k].Id ≤ ps[k - 1].Id
   ·obtain ⟨h0, h', h1⟩ := hord
    refine .inl ⟨5, ⟨fun h => absurd h (by decide), fun hr => ?_⟩, fun next => ?_⟩
    ·have := List.pairwise_iff_getElem.1 hr.rise (k - 1) k h' h (by omega)
     omega
    ·rw [Qd (by omega), Jj, J6 h, Jb, Wl, Jb, Qh (by omega), Ji, Qd (by omega), Jj, Qi (by omega), Jb, show (k : Int) - 1 = ((k - 1 : Nat) : Int) by omega, J6 h', Jb, Qd h1, Jj]
   ·have eC : ∀ next, (Xg (decide ((k : Int) < (ps.length : Int))) (J0 (Jk ps (k : Int)) fun t27 =>
      J0 (V8 t27.Id 1 1000000) fun t31 =>
      Xg t31 (some 2) (Xg (decide (0 < (k : Int))) (J0 (gI ((k : Int) - 1)) fun t39 =>
      J0 (Jk ps t39) fun t40 =>
      Xg (decide (t27.Id ≤ t40.Id)) (some 5) (X7 l (k : Int) mp next t27)) (X7 l (k : Int) mp next t27))) (some 0)) = X7 l (k : Int) mp next ps[k] := fun next => by
     rw [Qd (by omega), Jj, J6 h, Jb, Wl, Jb, Qh (by omega), Ji]
     by_cases h0 : 0 < k
     ·rw [Qd (by omega), Jj, Qi (by omega), Jb, show (k : Int) - 1 = ((k - 1 : Nat) : Int) by omega, J6 (show k - 1 < ps.length by omega), Jb, Qh (fun h1 => hord ⟨h0, by omega, h1⟩), Ji]
     ·rw [Qh (by omega), Ji]
    by_cases hpe : Ua l ps[k] = 0
    ·have hpi := personE_iff.1 hpe
     by_cases ht : twice l mp ps[k].Likes
     ·refine .inl ⟨6, ⟨fun h => absurd h (by decide), fun hr => ?_⟩, fun next => ?_⟩
      ·rcases ht with ⟨x, hx, hm⟩ | ht
       ·obtain ⟨i, hi, hik, hxi⟩ := (hM x).1 hm
        exact (List.pairwise_iff_getElem.1 hr.own i k hi h hik x hxi hx).elim
       ·exact (ht (hr.all _ (List.getElem_mem h)).photos).elim
      ·rw [eC]; exact ((Jcf hg ps[k] hz _ next mp).2 hpe).1 ht
     ·have hnt : (∀ x ∈ ps[k].Likes, ¬ inM mp x = true) ∧ (Xw l ps[k].Likes).Nodup := ⟨fun x hx hm => ht (.inl ⟨x, hx, hm⟩), Classical.byContradiction fun hh => ht (.inr hh)⟩
      refine .inr ⟨((k : Int) + 1, Z3 mp ps[k].Likes), ⟨k + 1, by simp, h, fun i hi hik => ?_, fun i hi hik => ?_, fun i j hi hj hij hjk => ?_, fun x => ?_⟩, by simp only; omega, fun next => ?_⟩
      ·rcases Nat.lt_or_ge i k with h3 | h3
       ·exact hP i hi h3
       ·have : i = k := by omega
        subst this
        exact ⟨hid, hpi.1, hpi.2.1, hpi.2.2.1, hpi.2.2.2, hnt.2⟩
      ·rcases Nat.lt_or_ge (i + 1) k with h3 | h3
       ·exact hR i hi h3
       ·have : k = i + 1 := by omega
        subst this
        rcases Int.lt_or_le ps[i].Id ps[i + 1].Id with h4 | h4
        ·exact h4
        ·exact absurd ⟨by omega, by omega, h4⟩ hord
      ·rcases Nat.lt_or_ge j k with h3 | h3
       ·exact hO i j hi hj hij h3
       ·have : j = k := by omega
        subst this
        intro x hx hx2
        exact hnt.1 x hx2 ((hM x).2 ⟨i, hi, hij, hx⟩)
      ·simp only
       rw [inM_setAll, Bool.or_eq_true, decide_eq_true_iff, hM]
       constructor
       ·rintro (h3 | ⟨i, hi, hik, hx⟩)
        ·exact ⟨k, h, by omega, h3⟩
        ·exact ⟨i, hi, by omega, hx⟩
       ·rintro ⟨i, hi, hik, hx⟩
        rcases Nat.lt_or_ge i k with h3 | h3
        ·exact .inr ⟨i, hi, h3, hx⟩
        ·have : i = k := by omega
         subst this; exact .inl hx
      ·rw [eC, ((Jcf hg ps[k] hz _ next mp).2 hpe).2 ht, Qi (by omega), Jb]
    ·refine .inl ⟨Ua l ps[k], ⟨fun h => absurd h hpe, fun hr => absurd ?_ hpe⟩, fun next => ?_⟩
     ·have := hr.all _ (List.getElem_mem h)
      exact personE_iff.2 ⟨this.title, this.likes, this.nots, this.apart⟩
     ·rw [eC]; exact (Jcf hg ps[k] hz _ next mp).1 hpe
  ·refine .inl ⟨2, ⟨fun h => absurd h (by decide), fun hr => absurd (hr.all _ (List.getElem_mem h)).idr hid⟩, fun next => ?_⟩
   rw [Qd (by omega), Jj, J6 h, Jb, Wl, Jb, Qd (by omega), Jj]
 ·have : k = ps.length := by omega
  subst this
  refine .inl ⟨0, ⟨fun _ => ⟨by omega, fun p hp => ?_, List.pairwise_iff_getElem.2 ?_, List.pairwise_iff_getElem.2 fun i j hi hj hij => hO i j hi hj hij hj⟩, fun _ => rfl⟩, fun next => ?_⟩
  ·obtain ⟨j, hj, rfl⟩ := List.getElem_of_mem hp
   exact hP j hj hj
  ·have step : ∀ d i (hi : i < ps.length) (hd : i + d + 1 < ps.length), ps[i].Id < ps[i + d + 1].Id := by
    intro d
    induction d with
    | zero => intro i hi hd; exact hR i hd hd
    | succ d ih =>
     intro i hi hd
     have h1 := ih i hi (by omega)
     have h2 : ps[i + d + 1].Id < ps[i + (d + 1) + 1].Id := hR (i + d + 1) hd hd
     omega
   intro i j hi hj hij
   have := step (j - i - 1) i hi (by omega)
   simpa [show i + (j - i - 1) + 1 = j by omega] using this
  ·rw [Qh (by omega), Ji]
end Go.M

/- What Confirm and Deny lean on, in plain Lean. Conditions: few elements. -/
namespace Go.M
open Go.Md Go.Pl
set_option linter.unusedVariables false
theorem cmpFrom_id : ∀ (l : List Int) (p : Int), (p :: l).Pairwise (fun x y => x < y) → Zy p l = l
 | [], p, _ => rfl
 | y :: l, p, h => by
  have hp := List.pairwise_cons.1 h
  unfold Zy
  rw [if_neg (fun e => by have := hp.1 y (by simp); omega), cmpFrom_id l y hp.2]
theorem cmpL_id (l : List Int) (h : l.Pairwise fun x y => x < y) : cmpL l = l := by
 cases l with
 | nil => rfl
 | cons p l => simp only [cmpL]; rw [cmpFrom_id l p h]
theorem sorted_lt {l : List Int} (h : l.Nodup) : (sorted l).Pairwise fun x y => x < y := by
 refine ((sorted_pw l).and ((Jae l).nodup_iff.2 h)).imp fun {x y} ⟨h1, h2⟩ => ?_
 simp at h1
 omega
theorem lt_nodup {l : List Int} (h : l.Pairwise fun x y => x < y) : l.Nodup := h.imp fun {x y} h => by omega
theorem rise_unique {a b : List Int} (p : a.Perm b) (ha : a.Pairwise fun x y => x < y) (hb : b.Pairwise fun x y => x < y) : a = b :=
 sorted_unique (le := fun x y => decide (x ≤ y)) (fun x y h1 h2 => by simp at h1 h2; omega) p (ha.imp fun {x y} h => by simp; omega) (hb.imp fun {x y} h => by simp; omega) (fun x => by simp)
theorem sorted_id {l : List Int} (h : l.Pairwise fun x y => x < y) : sorted l = l := rise_unique (Jae l) (sorted_lt (lt_nodup h)) h
theorem with_nodup (a b : List Int) (hl : a.length + b.length ≤ 35184372088832) (h : (a ++ b).Nodup) : Jh a b = some (sorted (a ++ b)) := by
 unfold Jh
 rw [concat_eq a b hl, Jb]
 unfold gSortI
 rw [if_pos (by rw [List.length_append]; omega), Jb]
 unfold gCmpI
 rw [if_pos (by rw [List.length_mergeSort, List.length_append]; omega), Jb]
 show some (cmpL (sorted (a ++ b))) = _
 rw [cmpL_id _ (sorted_lt h)]
theorem with_nil (a : List Int) (hl : a.length ≤ 35184372088832) (h : a.Pairwise fun x y => x < y) : Jh a [] = some a := by
 rw [with_nodup a [] (by simpa using hl) (by simpa using lt_nodup h), List.append_nil, sorted_id h]
def plus (l : List Int) (x : Int) : List Int := sorted (l ++ [x])
theorem plus_mem {l : List Int} {x k : Int} : k ∈ plus l x ↔ k ∈ l ∨ k = x := by
 unfold plus
 rw [(Jae _).mem_iff, List.mem_append, List.mem_singleton]
theorem plus_nodup {l : List Int} {x : Int} (h : l.Nodup) (hx : x ∉ l) : (l ++ [x]).Nodup := by
 rw [List.nodup_append]
 refine ⟨h, by simp, fun a ha b hb e => ?_⟩
 simp at hb; subst hb e; exact hx ha
theorem plus_rise {l : List Int} {x : Int} (h : l.Pairwise fun x y => x < y) (hx : x ∉ l) : (plus l x).Pairwise fun x y => x < y := sorted_lt (plus_nodup (lt_nodup h) hx)
theorem with_plus (l : List Int) (x : Int) (hl : l.length ≤ 17592186044000) (h : l.Pairwise fun x y => x < y) (hx : x ∉ l) : Jh l [x] = some (plus l x) :=
 with_nodup l [x] (by simp; omega) (plus_nodup (lt_nodup h) hx)
theorem delete_eq (a : List Int) (f : Int → Option Bool) (g : Int → Bool) (hl : a.length ≤ 17592186044010) (hf : ∀ x ∈ a, f x = some (g x)) : Vy a f = some (a.filter fun x => !g x) := by
 unfold Vy
 rw [indexInt_eq a f g (by omega) hf, Jb]
 unfold idx
 cases hi : a.findIdx? g with
 | none =>
  rw [List.findIdx?_eq_none_iff] at hi
  show Xg (decide ((-1 : Int) = -1)) (some a) _ = _
  rw [Qd rfl, Jj, List.filter_eq_self.2 fun x hx => by simp [hi x hx]]
 | some k0 =>
  obtain ⟨hk0, hg0, hlt⟩ := List.findIdx?_eq_some_iff_getElem.1 hi
  simp only
  rw [Qh (by omega), Ji, Qi (by omega), Jb]
  have h0 : (a.take k0).filter (fun x => !g x) = a.take k0 := List.filter_eq_self.2 fun x hx => by
   obtain ⟨j, hj, hj2, rfl⟩ : ∃ (j : Nat) (hj : j < a.length), j < k0 ∧ a[j] = x := by
    obtain ⟨j, hj, rfl⟩ := List.getElem_of_mem hx
    simp only [List.length_take] at hj
    exact ⟨j, by omega, by omega, by rw [List.getElem_take]⟩
   have := hlt j hj2
   simpa using this
  have key := Jaj (F := fun next2 s => Z6 f next2 s.1 s.2.1 s.2.2)
   (fun s : Int × Int × List Int => ∃ (j : Nat) (M : List Int), s.1 = (((a.take j).filter fun x => !g x).length : Int) ∧ s.2.1 = (j : Int) ∧ j ≤ a.length ∧ s.2.2 = (a.take j).filter (fun x => !g x) ++ (M ++ a.drop j) ∧ ((a.take j).filter fun x => !g x).length + M.length = j ∧ 0 < M.length)
   (fun s => a.length - s.2.1.toNat) (fun r => r = a.filter fun x => !g x)
   (by
    rintro ⟨_, _, _⟩ ⟨j, M, rfl, rfl, hj, rfl, hFM, hM⟩
    generalize hF : (a.take j).filter (fun x => !g x) = Fl at *
    simp only [Z6, V9]
    have hlen : (Fl ++ (M ++ a.drop j)).length = a.length := by simp; omega
    rcases Nat.lt_or_ge j a.length with h | h
    ·have hd : a.drop j = a[j] :: a.drop (j + 1) := List.drop_eq_getElem_cons h
     have ht : (a.take (j + 1)).filter (fun x => !g x) = Fl ++ [a[j]].filter fun x => !g x := by rw [List.take_succ_eq_append_getElem h, List.filter_append, hF]
     have e1 : Jk (Fl ++ (M ++ a.drop j)) (j : Int) = some a[j] := by
      rw [hd, ← List.append_assoc]
      unfold Jk
      rw [if_pos (by omega), Int.toNat_natCast, List.getElem?_append_right (by rw [List.length_append]; omega), List.length_append, hFM, Nat.sub_self]; rfl
     have hfx := hf _ (List.getElem_mem h)
     cases hgx : g a[j] with
     | true =>
      refine .inr ⟨((Fl.length : Int), (j : Int) + 1, Fl ++ ((M ++ [a[j]]) ++ a.drop (j + 1))), ⟨j + 1, M ++ [a[j]], ?_, by simp, h, ?_, ?_, by simp⟩, by simp only; omega, fun next => ?_⟩
      ·rw [ht]; simp [hgx]
      ·rw [ht]; simp [hgx]
      ·rw [ht]; simp [hgx]; omega
      ·rw [Qd (by rw [hlen]; omega), Jj, e1, Jb, hfx, Jb, hgx, Bool.not_true, Ji, Qi (by omega), Jb, hd]
       simp
     | false =>
      match M, hM with
      | m0 :: M, _ =>
       refine .inr ⟨((Fl.length : Int) + 1, (j : Int) + 1, (Fl ++ [a[j]]) ++ ((M ++ [a[j]]) ++ a.drop (j + 1))), ⟨j + 1, M ++ [a[j]], ?_, by simp, h, ?_, ?_, by simp⟩, by simp only; omega, fun next => ?_⟩
       ·rw [ht]; simp [hgx]
       ·rw [ht]; simp [hgx]
       ·rw [ht]; simp [hgx]; simp at hFM; omega
       ·have e2 : ∃ z, Jk (Fl ++ (m0 :: M ++ a.drop j)) (Fl.length : Int) = some z := ⟨m0, by unfold Jk; rw [if_pos (by omega), Int.toNat_natCast, List.getElem?_append_right (Nat.le_refl _), Nat.sub_self]; rfl⟩
        have e3 : Q6 (Fl ++ (m0 :: M ++ a.drop j)) (Fl.length : Int) a[j] = some ((Fl ++ [a[j]]) ++ ((M ++ [a[j]]) ++ a.drop (j + 1))) := by
         rw [Un (by omega) (by rw [Int.toNat_natCast]; simp), Int.toNat_natCast, List.set_append_right _ _ (Nat.le_refl _), Nat.sub_self, hd]
         simp
        obtain ⟨z, e2⟩ := e2
        rw [Qd (by rw [hlen]; omega), Jj, e1, Jb, hfx, Jb, hgx, Bool.not_false, Jj, e2, Jb, e3, Jb, Qi (by omega), Jb, Qi (by omega), Jb]
    ·have hj' : j = a.length := by omega
     subst hj'
     rw [List.take_length] at hF
     rw [List.drop_length, List.append_nil] at hlen ⊢
     refine .inl ⟨_, hF.symm, fun next => ?_⟩
     rw [Qh (by rw [hlen]; omega), Ji]
     simp only [Uu]
     rw [gCut_ok (by rw [hlen]; omega), Jb]
     have hc : (clrL (Fl ++ M) (Fl.length : Int) ((Fl ++ M).length : Nat) 0).length = (Fl ++ M).length := clrL_len (gCut_ok (by rw [List.length_append]; omega))
     rw [gCut_to (by rw [hc, List.length_append]; omega), Jb]
     unfold clrL
     simp)
   ((k0 : Int), (k0 : Int) + 1, a) ⟨k0 + 1, [a[k0]], ?_, by simp, hk0, ?_, ?_, by simp⟩
  ·obtain ⟨r, h1, rfl⟩ := key
   exact h1
  ·rw [List.take_succ_eq_append_getElem hk0, List.filter_append, h0]; simp [hg0]; omega
  ·rw [List.take_succ_eq_append_getElem hk0, List.filter_append, h0]
   simp [hg0]
  ·rw [List.take_succ_eq_append_getElem hk0, List.filter_append, h0]; simp [hg0]; omega
theorem copy_eq (ps : List T_face_Person) (hn : ps.length ≤ 100) (hsz : ∀ p ∈ ps, PSz p) (hr : ∀ p ∈ ps, (p.Likes.Pairwise fun x y => x < y) ∧ p.Nots.Pairwise fun x y => x < y) : Vt ps = some ps := by
 unfold Vt
 have key := Jaj (F := fun next2 s => W5 ps next2 s.1 s.2.1 s.2.2)
  (fun s : Int × Int × List T_face_Person => ∃ k : Nat, s.1 = (ps.length : Int) ∧ s.2.1 = (k : Int) ∧ k ≤ ps.length ∧ s.2.2 = ps.take k) (fun s => ps.length - s.2.1.toNat) (fun r => r = ps)
  (by
   rintro ⟨_, _, _⟩ ⟨k, rfl, rfl, hk, rfl⟩
   simp only [W5, Jce]
   rcases Nat.lt_or_ge k ps.length with h | h
   ·have hz := hsz _ (List.getElem_mem h)
    have hp := hr _ (List.getElem_mem h)
    refine .inr ⟨((ps.length : Int), (k : Int) + 1, ps.take (k + 1)), ⟨k + 1, rfl, by simp, h, rfl⟩, by simp only; omega, fun next => ?_⟩
    rw [Qd (by omega), Jj, J6 h, Jb, with_nil _ (by have := hz.1; omega) hp.1, Jb, with_nil _ (by have := hz.2; omega) hp.2, Jb, W9 (by simp; omega), Jb, Qi (by omega), Jb, List.take_succ_eq_append_getElem h]
   ·have : k = ps.length := by omega
    subst this
    refine .inl ⟨ps, rfl, fun next => ?_⟩
    rw [Qh (by omega), Ji, List.take_length])
  ((ps.length : Int), 0, []) ⟨0, rfl, rfl, Nat.zero_le _, rfl⟩
 obtain ⟨r, h1, rfl⟩ := key
 exact h1
theorem personAt_eq (ps : List T_face_Person) (hr : ps.Pairwise fun p q => p.Id < q.Id) (hl : ps.length ≤ 100) (n : Nat) (hn : n < ps.length) : Zv ps ps[n].Id = some ((n : Int), true) := by
 have hp := List.pairwise_iff_getElem.1 hr
 have hcmp : ∀ (p : T_face_Person) (b : Int), Zw p b = some (cI p.Id b) := fun p b => by unfold Zw; rw [Ja7, Jb]
 obtain ⟨k, h1, h2, h3, h4⟩ := bin_loop (F := fun next2 s => Qk ps ps[n].Id Zw next2 s.1 s.2) ps (fun x => decide (x.Id < ps[n].Id)) (fun i j hi hj hij h => by have := hp i j hi hj hij; simp at h ⊢; omega) (Q7 ps ps[n].Id Zw)
  (fun next i j h hij hj => by
   obtain ⟨f1, f2⟩ := half (x := (i : Int) + j) (by omega)
   rw [show ((i : Int) + j) / 2 = (((i + j) / 2 : Nat) : Int) by omega] at f1 f2
   simp only [Qk]
   rw [Qd (by omega), Jj, Qi (by omega), Jb, f1, Jb, f2, J6 h, Jb, hcmp, Jb]
   have hc := cI_lt ps[(i + j) / 2].Id ps[n].Id
   by_cases hlt : ps[(i + j) / 2].Id < ps[n].Id
   ·rw [Qd (hc.2 hlt), Jj, Qi (by omega), Jb, if_pos (decide_eq_true hlt)]
   ·rw [Qh (fun h => hlt (hc.1 h)), Ji, if_neg (by simpa using hlt)])
  (fun next i hi => by
   simp only [Qk]
   rw [Qh (by omega), Ji])
 have hkn : k = n := by
  rcases Nat.lt_trichotomy k n with h | h | h
  ·have := h3 k (by omega) (Nat.le_refl _)
   simp at this
   have := hp k n (by omega) hn h
   omega
  ·exact h
  ·have := h2 n hn h
   simp at this
 subst hkn
 unfold Zv Yj
 rw [h4]
 unfold Q7
 rw [Qd (by omega), Jj, J6 hn, Jb, hcmp, Jb, Jb, Qd ((cI_0 _ _).2 rfl)]
theorem owner_is {ps : List T_face_Person} (hn : ps.length ≤ 100) (hsz : ∀ p ∈ ps, PSz p) (hr : ∀ p ∈ ps, p.Likes.Pairwise fun x y => x < y) (id : Int) : ∃ o, Ut ps id = some o ∧ (0 ≤ o ↔ ∃ p ∈ ps, id ∈ p.Likes) := by
 refine ⟨idx (fun p => decide (id ∈ p.Likes)) ps, ?_, ?_⟩
 ·unfold Ut
  rw [Jcm ps (Jbt id) (fun p => decide (id ∈ p.Likes)) (by omega) (fun p hp => by
   unfold Jbt
   rw [Uo _ _ (hr p hp) (by have := (hsz p hp).1; omega), Jb]), Jb]
 ·have := idx_nn (fun p : T_face_Person => decide (id ∈ p.Likes)) ps
  have h2 : (0 ≤ idx (fun p : T_face_Person => decide (id ∈ p.Likes)) ps) ↔ (ps.any fun p => decide (id ∈ p.Likes)) = true := by rw [← this]; simp
  rw [h2, List.any_eq_true]
  simp
structure Sz0 (p : T_face_Person) : Prop where
 likes : p.Likes.length ≤ 17592186043904
 nots : p.Nots.length ≤ 17592186043904
theorem right_set {l : List T_face_Likeness} {ps : List T_face_Person} (hr : Right l ps) (n : Nat) (hn : n < ps.length) (q : T_face_Person) (hid : q.Id = ps[n].Id) (hq : PersonOk l q) (ho : ∀ (i : Nat) (hi : i < ps.length), i ≠ n → ∀ k ∈ q.Likes, k ∉ ps[i].Likes) : Right l (ps.set n q) := by
 have get : ∀ (i : Nat) (hi : i < (ps.set n q).length), (i = n ∧ (ps.set n q)[i] = q) ∨ (i ≠ n ∧ ∃ h : i < ps.length, (ps.set n q)[i] = ps[i]) := fun i hi => by
  rw [List.getElem_set]
  by_cases h : n = i
  ·exact .inl ⟨h.symm, if_pos h⟩
  ·exact .inr ⟨fun e => h e.symm, by simpa using hi, if_neg h⟩
 have hrise := List.pairwise_iff_getElem.1 hr.rise
 have hown := List.pairwise_iff_getElem.1 hr.own
 refine ⟨by simpa using hr.len, fun p hp => ?_, List.pairwise_iff_getElem.2 fun i j hi hj hij => ?_, List.pairwise_iff_getElem.2 fun i j hi hj hij => ?_⟩
 ·rcases List.mem_or_eq_of_mem_set hp with h | h
  ·exact hr.all p h
  ·subst h; exact hq
 ·rcases get i hi with ⟨rfl, e1⟩ | ⟨h1, h1', e1⟩ <;> rcases get j hj with ⟨rfl, e2⟩ | ⟨h2, h2', e2⟩
  ·omega
  ·rw [e1, e2, hid]; exact hrise _ _ hn h2' hij
  ·rw [e1, e2, hid]; exact hrise _ _ h1' hn hij
  ·rw [e1, e2]; exact hrise _ _ h1' h2' hij
 ·rcases get i hi with ⟨rfl, e1⟩ | ⟨h1, h1', e1⟩ <;> rcases get j hj with ⟨rfl, e2⟩ | ⟨h2, h2', e2⟩
  ·omega
  ·rw [e1, e2]; exact fun k hk => ho j h2' h2 k hk
  ·rw [e1, e2]; exact fun k hk hk2 => ho i h1' h1 k hk2 hk
  ·rw [e1, e2]; exact hown _ _ h1' h2' hij
section law
variable {l : List T_face_Likeness} (hg : Good l) (hc : V3 l = some 0) {ps : List T_face_Person} (hr : Right l ps) {id : Int} (hid : l.any (has id) = true)
include hg hc
theorem check_of (h : Right l ps) (hsz : ∀ p ∈ ps, PSz p) : Yn l ps = some 0 := by
 obtain ⟨e, h1, h2⟩ := check_right hg hc ps hsz (by have := h.len; omega)
 rw [h1, h2.2 h]
include hr hid
end law
end Go.M

/- FaceSplits in plain Lean: rising lists, their unions and what is left of them; searches. Conditions: few elements. -/
namespace Go.M
open Go.Md Go.Pl
set_option linter.unusedVariables false
theorem rise_same : ∀ {a b : List Int}, a.Pairwise (fun x y => x < y) → b.Pairwise (fun x y => x < y) → (∀ k, k ∈ a ↔ k ∈ b) → a = b
 | [], [], _, _, _ => rfl
 | [], y :: b, _, _, h => absurd ((h y).2 (by simp)) (by simp)
 | x :: a, [], _, _, h => absurd ((h x).1 (by simp)) (by simp)
 | x :: a, y :: b, ha, hb, h => by
  have pa := List.pairwise_cons.1 ha
  have pb := List.pairwise_cons.1 hb
  have hxy : x = y := by
   rcases List.mem_cons.1 ((h x).1 (by simp)) with e | h1
   ·exact e
   rcases List.mem_cons.1 ((h y).2 (by simp)) with e | h2
   ·exact e.symm
   have := pa.1 y h2
   have := pb.1 x h1
   omega
  subst hxy
  congr 1
  refine rise_same pa.2 pb.2 fun k => ⟨fun hk => ?_, fun hk => ?_⟩
  ·rcases List.mem_cons.1 ((h k).1 (by simp [hk])) with e | h1
   ·have := pa.1 k hk; omega
   ·exact h1
  ·rcases List.mem_cons.1 ((h k).2 (by simp [hk])) with e | h1
   ·have := pb.1 k hk; omega
   ·exact h1
theorem rise_len : ∀ {b a : List Int}, a.Pairwise (fun x y => x < y) → b.Pairwise (fun x y => x < y) → (∀ k ∈ a, k ∈ b) → a.length ≤ b.length
 | [], a, _, _, h => by
  cases a with
  | nil => simp
  | cons x a => exact absurd (h x (by simp)) (by simp)
 | y :: b, [], _, _, _ => by simp
 | y :: b, x :: a, ha, hb, h => by
  have pa := List.pairwise_cons.1 ha
  have pb := List.pairwise_cons.1 hb
  rcases List.mem_cons.1 (h x (by simp)) with e | h1
  ·subst e
   have := rise_len (a := a) pa.2 pb.2 fun k hk => by
    rcases List.mem_cons.1 (h k (by simp [hk])) with e | h1
    ·have := pa.1 k hk; omega
    ·exact h1
   simp; omega
  ·have := rise_len (a := x :: a) ha pb.2 fun k hk => by
    rcases List.mem_cons.1 (h k hk) with e | h2
    ·rcases List.mem_cons.1 hk with e2 | h3
     ·subst e2; exact h1
     ·have h4 := pa.1 k h3
      have h5 := pb.1 x h1
      omega
    ·exact h2
   simp at this ⊢; omega
theorem cmpFrom_mem : ∀ (l : List Int) (p k : Int), k ∈ p :: Zy p l ↔ k ∈ p :: l
 | [], p, k => by simp [Zy]
 | y :: l, p, k => by
  unfold Zy
  by_cases h : y = p
  ·subst h
   rw [if_pos rfl, cmpFrom_mem l y k]; simp
  ·rw [if_neg h, List.mem_cons, cmpFrom_mem l y k, List.mem_cons (l := y :: l)]
theorem cmpFrom_rise : ∀ (l : List Int) (p : Int), (p :: l).Pairwise (fun x y => x ≤ y) → (p :: Zy p l).Pairwise fun x y => x < y
 | [], p, _ => by simp [Zy]
 | y :: l, p, h => by
  have hp := List.pairwise_cons.1 h
  unfold Zy
  by_cases e : y = p
  ·subst e
   rw [if_pos rfl]
   exact cmpFrom_rise l y hp.2
  ·rw [if_neg e]
   have ih := cmpFrom_rise l y hp.2
   refine List.pairwise_cons.2 ⟨fun k hk => ?_, ih⟩
   have h1 := hp.1 y (by simp)
   rcases List.mem_cons.1 hk with e2 | h2
   ·subst e2; omega
   ·have := (List.pairwise_cons.1 ih).1 k h2
    omega
def Vp (a b : List Int) : List Int := cmpL (sorted (a ++ b))
theorem join_mem {a b : List Int} {k : Int} : k ∈ Vp a b ↔ k ∈ a ∨ k ∈ b := by
 have : k ∈ Vp a b ↔ k ∈ sorted (a ++ b) := by
  unfold Vp
  cases sorted (a ++ b) with
  | nil => simp [cmpL]
  | cons p l => simp only [cmpL]; exact cmpFrom_mem l p k
 rw [this, (Jae _).mem_iff, List.mem_append]
theorem Jch (a b : List Int) : (Vp a b).Pairwise fun x y => x < y := by
 unfold Vp
 have h := sorted_pw (a ++ b)
 cases hs : sorted (a ++ b) with
 | nil => simp [cmpL]
 | cons p l =>
  rw [hs] at h
  simp only [cmpL]
  exact cmpFrom_rise l p (h.imp fun {x y} h => by simpa using h)
theorem with_join (a b : List Int) (hl : a.length + b.length ≤ 35184372088832) : Jh a b = some (Vp a b) := by
 unfold Jh
 rw [concat_eq a b hl, Jb]
 unfold gSortI
 rw [if_pos (by rw [List.length_append]; omega), Jb]
 unfold gCmpI
 rw [if_pos (by rw [List.length_mergeSort, List.length_append]; omega), Jb]
 rfl
def less (a b : List Int) : List Int := a.filter fun k => !decide (k ∈ b)
theorem less_mem {a b : List Int} {k : Int} : k ∈ less a b ↔ k ∈ a ∧ k ∉ b := by
 unfold less
 rw [List.mem_filter]; simp
theorem less_rise {a b : List Int} (h : a.Pairwise fun x y => x < y) : (less a b).Pairwise fun x y => x < y := h.sublist List.filter_sublist
theorem without_less (a b : List Int) (hl : a.length ≤ 17592186044010) (hb : b.length ≤ 9223372036854775000) : Jz a b = some (less a b) := by
 unfold Jz Jg
 rw [W9 (by simp; omega), Jb, Jb, List.nil_append, delete_eq a (Jcq b) (fun k => decide (k ∈ b)) hl (fun k _ => by
  unfold Jcq
  rw [Ws _ _ hb, Jb]), Jb]
 rfl
theorem equal_ints (l : List Int) (hl : l.length ≤ 9223372036854775000) : Jab l l = some true := by
 unfold Jab
 rw [Qh (by simp), Ji]
 have h := up (F := fun next1 s => Wn l l next1 s) l.length (fun _ => some true) (fun next k hk ih => by
  simp only [Wn]
  rcases Nat.lt_or_ge k l.length with h | h
  ·rw [Qd (by omega), Jj, J6 h, Jb, Jb, Qh (by simp), Ji, Qi (by omega), Jb, ih h]
  ·rw [Qh (by omega), Ji])
 exact h
theorem personAt_not (ps : List T_face_Person) (hr : ps.Pairwise fun p q => p.Id < q.Id) (hl : ps.length ≤ 100) (id : Int) (hn : ∀ p ∈ ps, p.Id ≠ id) : ∃ i, Zv ps id = some (i, false) := by
 have hp := List.pairwise_iff_getElem.1 hr
 have hcmp : ∀ (p : T_face_Person) (b : Int), Zw p b = some (cI p.Id b) := fun p b => by unfold Zw; rw [Ja7, Jb]
 obtain ⟨k, h1, h2, h3, h4⟩ := bin_loop (F := fun next2 s => Qk ps id Zw next2 s.1 s.2) ps (fun x => decide (x.Id < id)) (fun i j hi hj hij h => by have := hp i j hi hj hij; simp at h ⊢; omega) (Q7 ps id Zw)
  (fun next i j h hij hj => by
   obtain ⟨f1, f2⟩ := half (x := (i : Int) + j) (by omega)
   rw [show ((i : Int) + j) / 2 = (((i + j) / 2 : Nat) : Int) by omega] at f1 f2
   simp only [Qk]
   rw [Qd (by omega), Jj, Qi (by omega), Jb, f1, Jb, f2, J6 h, Jb, hcmp, Jb]
   have hc := cI_lt ps[(i + j) / 2].Id id
   by_cases hlt : ps[(i + j) / 2].Id < id
   ·rw [Qd (hc.2 hlt), Jj, Qi (by omega), Jb, if_pos (decide_eq_true hlt)]
   ·rw [Qh (fun h => hlt (hc.1 h)), Ji, if_neg (by simpa using hlt)])
  (fun next i hi => by
   simp only [Qk]
   rw [Qh (by omega), Ji])
 unfold Zv Yj
 rw [h4]
 unfold Q7
 rcases Nat.lt_or_ge k ps.length with h | h
 ·rw [Qd (by omega), Jj, J6 h, Jb, hcmp, Jb, Jb, Qh (fun e => hn _ (List.getElem_mem h) ((cI_0 _ _).1 e))]
  exact ⟨_, rfl⟩
 ·rw [Qh (by omega), Ji, Jb]
  exact ⟨_, rfl⟩
theorem has_mem {l : List T_face_Likeness} {k : Int} : l.any (has k) = true ↔ k ∈ l.map (fun x => x.Id) := by
 rw [List.any_eq_true, List.mem_map]
 constructor
 ·rintro ⟨x, hx, h⟩; exact ⟨x, hx, by unfold has at h; simpa using h⟩
 ·rintro ⟨x, hx, h⟩; exact ⟨x, hx, by unfold has; simpa using h⟩
theorem Jbe {l : List T_face_Likeness} (hg : Good l) {ids : List Int} (h : IdsOk l ids) : ids.length ≤ 300 := by
 have h2 : (l.map fun x => x.Id).Pairwise fun x y => x < y := by rw [List.pairwise_map]; exact hg.rise
 have := rise_len h.rise h2 fun k hk => has_mem.1 (h.all k hk)
 rw [List.length_map] at this
 have := hg.len
 omega
theorem Jcv {l : List T_face_Likeness} (hg : Good l) {ps : List T_face_Person} (hr : Right l ps) : ∀ p ∈ ps, p.Likes.length ≤ 300 ∧ p.Nots.length ≤ 300 := fun p hp => ⟨Jbe hg (hr.all p hp).likes, Jbe hg (hr.all p hp).nots⟩
theorem Zg {l : List T_face_Likeness} (hg : Good l) {ps : List T_face_Person} (hr : Right l ps) : ∀ p ∈ ps, PSz p := fun p hp => by
 have := Jcv hg hr p hp
 exact ⟨by omega, by omega⟩
theorem Jcd {l : List T_face_Likeness} {ps : List T_face_Person} (hr : Right l ps) : ∀ p ∈ ps, (p.Likes.Pairwise fun x y => x < y) ∧ p.Nots.Pairwise fun x y => x < y := fun p hp => ⟨(hr.all p hp).likes.rise, (hr.all p hp).nots.rise⟩
theorem insL_nat {α : Type} (xs : List α) (i : Nat) (x : α) : Wo xs (i : Int) x = xs.take i ++ ([x] ++ xs.drop i) := by unfold Wo; rw [Int.toNat_natCast]
theorem ins_len {α : Type} (xs : List α) (i : Nat) (x : α) (hi : i ≤ xs.length) : (Wo xs (i : Int) x).length = xs.length + 1 := by
 rw [insL_nat]; simp only [List.length_append, List.length_take, List.length_drop, List.length_cons, List.length_nil]; omega
theorem ins_mem {α : Type} {xs : List α} {i : Nat} {x y : α} (h : y ∈ Wo xs (i : Int) x) : y = x ∨ y ∈ xs := by
 rw [insL_nat, List.mem_append, List.mem_append] at h
 rcases h with h | h | h
 ·exact .inr (List.mem_of_mem_take h)
 ·exact .inl (by simpa using h)
 ·exact .inr (List.mem_of_mem_drop h)
end Go.M

/- FaceSplits in plain Lean: Sort leaves people right. Conditions: few elements. -/
namespace Go.M
open Go.Md Go.Pl
set_option linter.unusedVariables false
theorem indexLk_eq (l : List T_face_Likeness) (f : T_face_Likeness → Option Bool) (g : T_face_Likeness → Bool) (hl : l.length ≤ 9223372036854775000) (hf : ∀ x ∈ l, f x = some (g x)) : Yy l f = some (idx g l) := Jbi hl hf fun _ _ => rfl
theorem deleteL_eq (a : List T_face_Likeness) (f : T_face_Likeness → Option Bool) (g : T_face_Likeness → Bool) (hl : a.length ≤ 17592186044010) (hf : ∀ x ∈ a, f x = some (g x)) : Zo a f = some (a.filter fun x => !g x) := by
 unfold Zo
 rw [indexLk_eq a f g (by omega) hf, Jb]
 unfold idx
 cases hi : a.findIdx? g with
 | none =>
  rw [List.findIdx?_eq_none_iff] at hi
  show Xg (decide ((-1 : Int) = -1)) (some a) _ = _
  rw [Qd rfl, Jj, List.filter_eq_self.2 fun x hx => by simp [hi x hx]]
 | some k0 =>
  obtain ⟨hk0, hg0, hlt⟩ := List.findIdx?_eq_some_iff_getElem.1 hi
  simp only
  rw [Qh (by omega), Ji, Qi (by omega), Jb]
  have h0 : (a.take k0).filter (fun x => !g x) = a.take k0 := List.filter_eq_self.2 fun x hx => by
   obtain ⟨j, hj, hj2, rfl⟩ : ∃ (j : Nat) (hj : j < a.length), j < k0 ∧ a[j] = x := by
    obtain ⟨j, hj, rfl⟩ := List.getElem_of_mem hx
    simp only [List.length_take] at hj
    exact ⟨j, by omega, by omega, by rw [List.getElem_take]⟩
   have := hlt j hj2
   simpa using this
  have key := Jaj (F := fun next2 s => Yg f next2 s.1 s.2.1 s.2.2)
   (fun s : Int × Int × List T_face_Likeness => ∃ (j : Nat) (M : List T_face_Likeness), s.1 = (((a.take j).filter fun x => !g x).length : Int) ∧ s.2.1 = (j : Int) ∧ j ≤ a.length ∧ s.2.2 = (a.take j).filter (fun x => !g x) ++ (M ++ a.drop j) ∧ ((a.take j).filter fun x => !g x).length + M.length = j ∧ 0 < M.length)
   (fun s => a.length - s.2.1.toNat) (fun r => r = a.filter fun x => !g x)
   (by
    rintro ⟨_, _, _⟩ ⟨j, M, rfl, rfl, hj, rfl, hFM, hM⟩
    generalize hF : (a.take j).filter (fun x => !g x) = Fl at *
    simp only [Yg, Y9]
    have hlen : (Fl ++ (M ++ a.drop j)).length = a.length := by simp; omega
    rcases Nat.lt_or_ge j a.length with h | h
    ·have hd : a.drop j = a[j] :: a.drop (j + 1) := List.drop_eq_getElem_cons h
     have ht : (a.take (j + 1)).filter (fun x => !g x) = Fl ++ [a[j]].filter fun x => !g x := by rw [List.take_succ_eq_append_getElem h, List.filter_append, hF]
     have e1 : Jk (Fl ++ (M ++ a.drop j)) (j : Int) = some a[j] := by
      rw [hd, ← List.append_assoc]
      unfold Jk
      rw [if_pos (by omega), Int.toNat_natCast, List.getElem?_append_right (by rw [List.length_append]; omega), List.length_append, hFM, Nat.sub_self]; rfl
     have hfx := hf _ (List.getElem_mem h)
     cases hgx : g a[j] with
     | true =>
      refine .inr ⟨((Fl.length : Int), (j : Int) + 1, Fl ++ ((M ++ [a[j]]) ++ a.drop (j + 1))), ⟨j + 1, M ++ [a[j]], ?_, by simp, h, ?_, ?_, by simp⟩, by simp only; omega, fun next => ?_⟩
      ·rw [ht]; simp [hgx]
      ·rw [ht]; simp [hgx]
      ·rw [ht]; simp [hgx]; omega
      ·rw [Qd (by rw [hlen]; omega), Jj, e1, Jb, hfx, Jb, hgx, Bool.not_true, Ji, Qi (by omega), Jb, hd]
       simp
     | false =>
      match M, hM with
      | m0 :: M, _ =>
       refine .inr ⟨((Fl.length : Int) + 1, (j : Int) + 1, (Fl ++ [a[j]]) ++ ((M ++ [a[j]]) ++ a.drop (j + 1))), ⟨j + 1, M ++ [a[j]], ?_, by simp, h, ?_, ?_, by simp⟩, by simp only; omega, fun next => ?_⟩
       ·rw [ht]; simp [hgx]
       ·rw [ht]; simp [hgx]
       ·rw [ht]; simp [hgx]; simp at hFM; omega
       ·have e2 : ∃ z, Jk (Fl ++ (m0 :: M ++ a.drop j)) (Fl.length : Int) = some z := ⟨m0, by unfold Jk; rw [if_pos (by omega), Int.toNat_natCast, List.getElem?_append_right (Nat.le_refl _), Nat.sub_self]; rfl⟩
        have e3 : Q6 (Fl ++ (m0 :: M ++ a.drop j)) (Fl.length : Int) a[j] = some ((Fl ++ [a[j]]) ++ ((M ++ [a[j]]) ++ a.drop (j + 1))) := by
         rw [Un (by omega) (by rw [Int.toNat_natCast]; simp), Int.toNat_natCast, List.set_append_right _ _ (Nat.le_refl _), Nat.sub_self, hd]
         simp
        obtain ⟨z, e2⟩ := e2
        rw [Qd (by rw [hlen]; omega), Jj, e1, Jb, hfx, Jb, hgx, Bool.not_false, Jj, e2, Jb, e3, Jb, Qi (by omega), Jb, Qi (by omega), Jb]
    ·have hj' : j = a.length := by omega
     subst hj'
     rw [List.take_length] at hF
     rw [List.drop_length, List.append_nil] at hlen ⊢
     refine .inl ⟨_, hF.symm, fun next => ?_⟩
     rw [Qh (by rw [hlen]; omega), Ji]
     simp only [Vd]
     rw [gCut_ok (by rw [hlen]; omega), Jb]
     have hc : (clrL (Fl ++ M) (Fl.length : Int) ((Fl ++ M).length : Nat) (⟨0, 0, (fun _ => 0)⟩ : T_face_Likeness)).length = (Fl ++ M).length := clrL_len (gCut_ok (by rw [List.length_append]; omega))
     rw [gCut_to (by rw [hc, List.length_append]; omega), Jb]
     unfold clrL
     simp)
   ((k0 : Int), (k0 : Int) + 1, a) ⟨k0 + 1, [a[k0]], ?_, by simp, hk0, ?_, ?_, by simp⟩
  ·obtain ⟨r, h1, rfl⟩ := key
   exact h1
  ·rw [List.take_succ_eq_append_getElem hk0, List.filter_append, h0]; simp [hg0]; omega
  ·rw [List.take_succ_eq_append_getElem hk0, List.filter_append, h0]
   simp [hg0]
  ·rw [List.take_succ_eq_append_getElem hk0, List.filter_append, h0]; simp [hg0]; omega
theorem or_eq3 (p s u : Int) : W2 [p, s, u] = some (if p = 0 then (if s = 0 then u else s) else p) := by
 unfold W2
 by_cases h : p = 0
 ·subst h
  rw [Yr (b := (1 : Int)) (fun next => by simp [Q4, Jk, gI])]
  by_cases h2 : s = 0
  ·subst h2
   rw [Yr (b := (2 : Int)) (fun next => by simp [Q4, Jk, gI])]
   by_cases h3 : u = 0
   ·subst h3
    rw [Yr (b := (3 : Int)) (fun next => by simp [Q4, Jk, gI])]
    rw [Q8 (o := some 0) (fun next => by simp [Q4])]
    rfl
   ·rw [Q8 (o := some u) (fun next => by simp [Q4, Jk, h3])]
    simp
  ·rw [Q8 (o := some s) (fun next => by simp [Q4, Jk, h2])]
   simp [h2]
 ·rw [Q8 (o := some p) (fun next => by simp [Q4, Jk, h])]
  simp [h]
def cO (x y : T_face_offer) : Int := if cI x.far_ y.far_ = 0 then (if cI x.id_ y.id_ = 0 then cI x.person_ y.person_ else cI x.id_ y.id_) else cI x.far_ y.far_
theorem cmpO_eq (x y : T_face_offer) : Wu x y = some (cO x y) := by
 unfold Wu
 rw [Ja7, Jb, Ja7, Jb, Ja7, Jb, or_eq3, Jb]; rfl
theorem cO_le (x y : T_face_offer) : cO x y ≤ 0 ↔ x.far_ < y.far_ ∨ x.far_ = y.far_ ∧ (x.id_ < y.id_ ∨ x.id_ = y.id_ ∧ x.person_ ≤ y.person_) := by
 unfold cO
 have h1 := cI_lt x.far_ y.far_
 have h2 := cI_gt x.far_ y.far_
 have h3 := cI_0 x.far_ y.far_
 have h4 := cI_lt x.id_ y.id_
 have h5 := cI_gt x.id_ y.id_
 have h6 := cI_0 x.id_ y.id_
 have h7 := cI_gt x.person_ y.person_
 split
 ·split <;> omega
 ·omega
theorem cO_0 (x y : T_face_offer) : cO x y = 0 ↔ x.far_ = y.far_ ∧ x.id_ = y.id_ ∧ x.person_ = y.person_ := by
 unfold cO
 have h3 := cI_0 x.far_ y.far_
 have h6 := cI_0 x.id_ y.id_
 have h8 := cI_0 x.person_ y.person_
 split
 ·split <;> omega
 ·omega
theorem cmpOkO : CmpOk Wu where
 tot x y := ⟨_, cmpO_eq x y⟩
 flip x y := by
  rw [cmpO_eq, cmpO_eq]
  have h1 := cO_le x y
  have h2 := cO_le y x
  have h3 := cO_0 x y
  simp only [Option.getD_some]
  omega
 trans x y z := by
  rw [cmpO_eq, cmpO_eq, cmpO_eq]
  simp only [Option.getD_some]
  rw [cO_le, cO_le, cO_le]
  omega
 anti x y := by
  rw [cmpO_eq]
  simp only [Option.getD_some]
  rw [cO_0]
  rintro ⟨h1, h2, h3⟩
  cases x; cases y
  simp at h1 h2 h3
  subst h1 h2 h3; rfl
structure OfferOk (l : List T_face_Likeness) (ps : List T_face_Person) (o : T_face_offer) : Prop where
 like : l.any (has o.id_) = true
 one : ∃ (n : Nat) (h : n < ps.length), o.person_ = ps[n].Id ∧ o.id_ ∉ ps[n].Nots
structure From (l : List T_face_Likeness) (ps out : List T_face_Person) : Prop where
 right : Right l out
 len : out.length = ps.length
 same : ∀ (n : Nat) (h : n < ps.length) (h' : n < out.length), out[n].Id = ps[n].Id ∧ out[n].Nots = ps[n].Nots
theorem give_right {l : List T_face_Likeness} {ps : List T_face_Person} (hr : Right l ps) {id : Int} (hid : l.any (has id) = true) (n : Nat) (hn : n < ps.length) (hno : ∀ p ∈ ps, id ∉ p.Likes) (hph : Zi l id ∉ Xw l ps[n].Likes) (hnot : id ∉ ps[n].Nots) :
  Right l (ps.set n ⟨ps[n].Id, ps[n].Name, plus ps[n].Likes id, ps[n].Nots⟩) := by
 have hok := hr.all _ (List.getElem_mem hn)
 have hl0 := hno _ (List.getElem_mem hn)
 have hother : ∀ (i : Nat) (hi : i < ps.length), i ≠ n → ∀ k ∈ ps[n].Likes, k ∉ ps[i].Likes := fun i hi hin k hk hk2 => by
  have ho := List.pairwise_iff_getElem.1 hr.own
  rcases Nat.lt_or_ge i n with h | h
  ·exact ho i n hi hn h k hk2 hk
  ·exact ho n i hn hi (by omega) k hk hk2
 have ok1 : PersonOk l ⟨ps[n].Id, ps[n].Name, plus ps[n].Likes id, ps[n].Nots⟩ := by
  refine ⟨hok.idr, hok.title, ⟨fun k hk => ?_, plus_rise hok.likes.rise hl0⟩, hok.nots, fun k hk => ?_, ?_⟩
  ·rcases plus_mem.1 hk with h | h
   ·exact hok.likes.all k h
   ·subst h; exact hid
  ·rcases plus_mem.1 hk with h | h
   ·exact hok.apart k h
   ·subst h; exact hnot
  ·show ((plus ps[n].Likes id).map (Zi l)).Nodup
   have h1 : ((plus ps[n].Likes id).map (Zi l)).Perm ((ps[n].Likes ++ [id]).map (Zi l)) := (Jae _).map _
   rw [h1.nodup_iff, List.map_append]
   exact plus_nodup hok.photos hph
 refine right_set hr n hn _ rfl ok1 fun i hi hin k hk => ?_
 rcases plus_mem.1 hk with h | h
 ·exact hother i hi hin k h
 ·subst h; exact hno _ (List.getElem_mem hi)
noncomputable def addO (lim : Int) (id : Int) (s : List T_face_offer) (m : T_face_Match) : List T_face_offer := if m.Far ≤ lim then s ++ [⟨id, m.Person, m.Far⟩] else s
theorem addO_all (lim id : Int) : ∀ (ms : List T_face_Match) (s : List T_face_offer), (ms.foldl (addO lim id) s).length ≤ s.length + ms.length ∧ ∀ o ∈ ms.foldl (addO lim id) s, o ∈ s ∨ ∃ m ∈ ms, o = ⟨id, m.Person, m.Far⟩
 | [], s => ⟨by simp, fun o ho => .inl ho⟩
 | m :: ms, s => by
  have ih := addO_all lim id ms (addO lim id s m)
  rw [List.foldl_cons]
  have hl : (addO lim id s m).length ≤ s.length + 1 := by unfold addO; split <;> simp
  refine ⟨by rw [List.length_cons]; omega, fun o ho => ?_⟩
  rcases ih.2 o ho with h | ⟨m', hm', h⟩
  ·unfold addO at h
   split at h
   ·rcases List.mem_append.1 h with h | h
    ·exact .inl h
    ·exact .inr ⟨m, by simp, by simpa using h⟩
   ·exact .inl h
  ·exact .inr ⟨m', by simp [hm'], h⟩
theorem offers_step {l : List T_face_Likeness} {ps : List T_face_Person} (hml : ∀ id, (Jat l ps id).length ≤ 100) (lim : Int) (x : T_face_Likeness) (hx : l.any (has x.Id) = true) (s : List T_face_offer) (hs : ∀ o ∈ s, OfferOk l ps o) :
  ((Jat l ps x.Id).foldl (addO lim x.Id) s).length ≤ s.length + 100 ∧ ∀ o ∈ (Jat l ps x.Id).foldl (addO lim x.Id) s, OfferOk l ps o := by
 have h := addO_all lim x.Id (Jat l ps x.Id) s
 have := hml x.Id
 refine ⟨by omega, fun o ho => ?_⟩
 rcases h.2 o ho with h1 | ⟨m, hm, rfl⟩
 ·exact hs o h1
 ·obtain ⟨p, hp, hcould, rfl⟩ := match_mem hm
  obtain ⟨n, hn, rfl⟩ := List.getElem_of_mem hp
  unfold could at hcould
  simp only [Bool.and_eq_true, decide_eq_true_iff, Bool.not_eq_true', decide_eq_false_iff_not] at hcould
  exact ⟨hx, n, hn, rfl, hcould.2.1⟩
theorem offers_all {l : List T_face_Likeness} {ps : List T_face_Person} (hml : ∀ id, (Jat l ps id).length ≤ 100) (lim : Int) : ∀ (fs : List T_face_Likeness) (s : List T_face_offer), (∀ x ∈ fs, l.any (has x.Id) = true) → (∀ o ∈ s, OfferOk l ps o) →
  (fs.foldl (fun s x => (Jat l ps x.Id).foldl (addO lim x.Id) s) s).length ≤ s.length + 100 * fs.length ∧ ∀ o ∈ fs.foldl (fun s x => (Jat l ps x.Id).foldl (addO lim x.Id) s) s, OfferOk l ps o
 | [], s, _, hs => ⟨by simp, hs⟩
 | x :: fs, s, hf, hs => by
  have h1 := offers_step hml lim x (hf x (by simp)) s hs
  have h2 := offers_all hml lim fs _ (fun y hy => hf y (by simp [hy])) h1.2
  rw [List.foldl_cons]
  refine ⟨?_, h2.2⟩
  rw [List.length_cons]
  omega
theorem offers_one (lim : Int) (x31 : Int) (next4 : Int × List T_face_offer → Option (List T_face_Person × Int)) (t33 : T_face_Likeness) (ms : List T_face_Match) (hm : ms.length ≤ 100) (s : List T_face_offer) (hs : s.length ≤ 1000000) :
  Zx (fun next6 s => Jag lim x31 next4 t33 ms next6 s.1 s.2) (0, s) = Jc1 x31 next4 (ms.foldl (addO lim t33.Id) s) := by
 refine Ja6 (F := fun next6 s => Jag lim x31 next4 t33 ms next6 s.1 s.2) ms (addO lim t33.Id) (Jc1 x31 next4) (fun k s' => s'.length ≤ s.length + k) (fun next k s' hk hs' => ?_) (fun next s' _ => ?_) s (by omega)
 ·simp only [Jag, face_Sort_j7]
  rw [Qd (by omega), Jj, J6 hk, Jb]
  unfold addO
  by_cases c : ms[k].Far ≤ lim
  ·rw [Qd c, Jj, W9 (by simp; omega), Jb, Qi (by omega), Jb, if_pos c]
   exact ⟨rfl, by simp; omega⟩
  ·rw [Qh c, Ji, Qi (by omega), Jb, if_neg c]
   exact ⟨rfl, by omega⟩
 ·simp only [Jag]
  rw [Qh (by omega), Ji]
end Go.M

/- FaceSplits in plain Lean: what Split makes, and what Merge makes of it. Conditions: few elements. -/
namespace Go.M
open Go.Md Go.Pl
set_option linter.unusedVariables false
def rest (p : T_face_Person) (ids : List Int) : T_face_Person := ⟨p.Id, p.Name, less p.Likes ids, Vp p.Nots ids⟩
def part (p : T_face_Person) (ids : List Int) (name : List UInt8) (i : Nat) : T_face_Person := ⟨(i : Int) + 1, name, ids, Vp p.Nots (less p.Likes ids)⟩
structure Parted (ps : List T_face_Person) (person : Int) (ids : List Int) (name : List UInt8) (q : List T_face_Person) (n i : Nat) (hn : n < ps.length) : Prop where
 id : ps[n].Id = person
 sub : ∀ k ∈ ids, k ∈ ps[n].Likes
 rise : ids.Pairwise fun x y => x < y
 title : titleB name = true
 few : ps.length < 100
 le : i ≤ ps.length
 below : ∀ (j : Nat) (h : j < ps.length), j < i → ps[j].Id < (i : Int) + 1
 above : ∀ (j : Nat) (h : j < ps.length), i ≤ j → (i : Int) + 1 < ps[j].Id
 eq : q = Wo (ps.set n (rest ps[n] ids)) (i : Int) (part ps[n] ids name i)
end Go.M

/- What Split makes is right, in plain Lean. Conditions: few elements. -/
namespace Go.M
open Go.Md Go.Pl
set_option linter.unusedVariables false
theorem right_ins {l : List T_face_Likeness} {xs : List T_face_Person} (hr : Right l xs) (hf : xs.length < 100) (i : Nat) (hi : i ≤ xs.length) {b : T_face_Person} (hb : PersonOk l b) (h1 : ∀ (j : Nat) (h : j < xs.length), j < i → xs[j].Id < b.Id) (h2 : ∀ (j : Nat) (h : j < xs.length), i ≤ j → b.Id < xs[j].Id) (ho : ∀ p ∈ xs, ∀ k ∈ b.Likes, k ∉ p.Likes) :
  Right l (Wo xs (i : Int) b) := by
 have hmt : ∀ p ∈ xs.take i, p ∈ xs ∧ p.Id < b.Id := fun p hp => by
  obtain ⟨j, hj, rfl⟩ := List.getElem_of_mem hp
  rw [List.length_take] at hj
  rw [List.getElem_take]
  exact ⟨List.getElem_mem _, h1 j (by omega) (by omega)⟩
 have hmd : ∀ p ∈ xs.drop i, p ∈ xs ∧ b.Id < p.Id := fun p hp => by
  obtain ⟨j, hj, rfl⟩ := List.getElem_of_mem hp
  rw [List.length_drop] at hj
  rw [List.getElem_drop]
  exact ⟨List.getElem_mem _, h2 (i + j) (by omega) (by omega)⟩
 have hsplit : xs = xs.take i ++ xs.drop i := (List.take_append_drop i xs).symm
 have hrise := hr.rise
 have hown := hr.own
 rw [hsplit, List.pairwise_append] at hrise hown
 refine ⟨by rw [ins_len xs i b hi]; omega, fun p hp => ?_, ?_, ?_⟩
 ·rcases ins_mem hp with h | h
  ·rw [h]; exact hb
  ·exact hr.all p h
 ·rw [insL_nat, List.pairwise_append, List.singleton_append, List.pairwise_cons]
  refine ⟨hrise.1, ⟨fun p hp => (hmd p hp).2, hrise.2.1⟩, fun p hp q hq => ?_⟩
  rcases List.mem_cons.1 hq with h | h
  ·rw [h]; exact (hmt p hp).2
  ·exact hrise.2.2 p hp q h
 ·rw [insL_nat, List.pairwise_append, List.singleton_append, List.pairwise_cons]
  refine ⟨hown.1, ⟨fun p hp => ho p (hmd p hp).1, hown.2.1⟩, fun p hp q hq => ?_⟩
  rcases List.mem_cons.1 hq with h | h
  ·rw [h]; exact fun k hk hk2 => ho p (hmt p hp).1 k hk2 hk
  ·exact hown.2.2 p hp q h
theorem apart_of {l : List T_face_Likeness} {ps : List T_face_Person} (hr : Right l ps) {n : Nat} (hn : n < ps.length) (j : Nat) (hj : j < ps.length) (hne : j ≠ n) : ∀ k ∈ ps[n].Likes, k ∉ ps[j].Likes := fun k hk hk2 => by
 have ho := List.pairwise_iff_getElem.1 hr.own
 rcases Nat.lt_or_ge j n with h | h
 ·exact ho j n hj hn h k hk2 hk
 ·exact ho n j hn hj (by omega) k hk hk2
section parted
variable {l : List T_face_Likeness} (hg : Good l) {ps : List T_face_Person} (hr : Right l ps) {person : Int} {ids : List Int} {name : List UInt8} {q : List T_face_Person} {n i : Nat} {hn : n < ps.length} (hp : Parted ps person ids name q n i hn)
include hr hp
theorem rest_ok : PersonOk l (rest ps[n] ids) := by
 have hok := hr.all _ (List.getElem_mem hn)
 refine ⟨hok.idr, hok.title, ⟨fun k hk => hok.likes.all k (less_mem.1 hk).1, less_rise hok.likes.rise⟩, ⟨fun k hk => ?_, Jch _ _⟩, fun k hk hk2 => ?_, ?_⟩
 ·rcases join_mem.1 hk with h | h
  ·exact hok.nots.all k h
  ·exact hok.likes.all k (hp.sub k h)
 ·have h1 := less_mem.1 hk
  rcases join_mem.1 hk2 with h | h
  ·exact hok.apart k h1.1 h
  ·exact h1.2 h
 ·exact hok.photos.sublist (List.Sublist.map _ List.filter_sublist)
theorem part_ok : PersonOk l (part ps[n] ids name i) := by
 have hok := hr.all _ (List.getElem_mem hn)
 have h1 := hp.le
 have h2 := hp.few
 refine ⟨⟨by show 1 ≤ (i : Int) + 1; omega, by show (i : Int) + 1 ≤ 1000000; omega⟩, hp.title, ⟨fun k hk => hok.likes.all k (hp.sub k hk), hp.rise⟩, ⟨fun k hk => ?_, Jch _ _⟩, fun k hk hk2 => ?_, ?_⟩
 ·rcases join_mem.1 hk with h | h
  ·exact hok.nots.all k h
  ·exact hok.likes.all k (less_mem.1 h).1
 ·rcases join_mem.1 hk2 with h | h
  ·exact hok.apart k (hp.sub k hk) h
  ·exact (less_mem.1 h).2 hk
 ·have e : ids = ps[n].Likes.filter fun k => decide (k ∈ ids) := rise_same hp.rise (hok.likes.rise.sublist List.filter_sublist) fun k => by
   rw [List.mem_filter, decide_eq_true_iff]
   exact ⟨fun h => ⟨hp.sub k h, h⟩, fun h => h.2⟩
  show (ids.map (Zi l)).Nodup
  rw [e]
  exact hok.photos.sublist (List.Sublist.map _ List.filter_sublist)
theorem parted_right : Right l q := by
 rw [hp.eq]
 have h1 : Right l (ps.set n (rest ps[n] ids)) := right_set hr n hn _ rfl (rest_ok hr hp) fun j hj hjn k hk => apart_of hr hn j hj hjn k (less_mem.1 hk).1
 have hlen : (ps.set n (rest ps[n] ids)).length = ps.length := by simp
 have hidj : ∀ (j : Nat) (h : j < ps.length), ((ps.set n (rest ps[n] ids))[j]'(by simpa using h)).Id = ps[j].Id := fun j h => by
  rw [List.getElem_set]
  split
  ·rename_i e; subst e; rfl
  ·rfl
 refine right_ins h1 (by rw [hlen]; exact hp.few) i (by rw [hlen]; exact hp.le) (part_ok hr hp) (fun j h hj => ?_) (fun j h hj => ?_) fun p hpm k hk => ?_
 ·rw [hidj j (by omega)]; exact hp.below j (by omega) hj
 ·rw [hidj j (by omega)]; exact hp.above j (by omega) hj
 ·obtain ⟨j, hj, rfl⟩ := List.getElem_of_mem hpm
  rw [List.getElem_set]
  split
  ·exact fun h => (less_mem.1 h).2 hk
  ·rename_i hne
   exact apart_of hr hn j (by omega) (fun e => hne e.symm) k (hp.sub k hk)
include hg
end parted
section law
variable {l : List T_face_Likeness} (hg : Good l) (hc : V3 l = some 0) {ps : List T_face_Person} (hr : Right l ps)
include hg hc hr
end law
end Go.M

/- FaceChanges in plain Lean: what the small functions of both sides answer. Conditions: few elements. -/
namespace Go.M
open Go.Md Go.Pl
set_option linter.unusedVariables false
theorem fix_seq {σ ρ : Type} {F : (σ → Option ρ) → σ → Option ρ} (S : Nat → σ) (n : Nat) {J : Option ρ} (more : ∀ (next : σ → Option ρ) (k : Nat), k < n → F next (S k) = next (S (k + 1))) (last : ∀ next, F next (S n) = J) : Zx F (S 0) = J := by
 have key : ∀ d k, k + d = n → Zx F (S k) = J := by
  intro d
  induction d with
  | zero =>
   intro k h
   have : k = n := by omega
   subst this; exact Q8 last
  | succ d ih =>
   intro k h
   rw [Yr (S (k + 1)) fun next => more next k (by omega)]
   exact ih (k + 1) (by omega)
 exact key n 0 (by omega)
theorem least {p : Nat → Prop} : ∀ k, p k → ∃ j, j ≤ k ∧ p j ∧ ∀ i, i < j → ¬ p i := by
 intro k
 induction k using Nat.strongRecOn with
 | ind k ih =>
  intro hk
  by_cases h : ∃ i, i < k ∧ p i
  ·obtain ⟨i, hi, hp⟩ := h
   obtain ⟨j, hj, h1, h2⟩ := ih i hi hp
   exact ⟨j, by omega, h1, h2⟩
  ·exact ⟨k, Nat.le_refl _, hk, fun i hi hp => h ⟨i, hi, hp⟩⟩
theorem fix_look {ρ : Type} {F : (Int → Option ρ) → Int → Option ρ} (s n : Nat) (bad : Nat → Prop) {A B : Option ρ} (hs : s ≤ n)
  (go : ∀ (next : Int → Option ρ) (k : Nat), s ≤ k → k < n → ¬ bad k → F next (k : Int) = next ((k + 1 : Nat) : Int)) (stop : ∀ (next : Int → Option ρ) (k : Nat), s ≤ k → k < n → bad k → F next (k : Int) = A) (last : ∀ next, F next (n : Int) = B) :
  ((∃ k, s ≤ k ∧ k < n ∧ bad k) → Zx F (s : Int) = A) ∧ ((∀ k, s ≤ k → k < n → ¬ bad k) → Zx F (s : Int) = B) := by
 constructor
 ·rintro ⟨k, h1, h2, h3⟩
  obtain ⟨j, hj, hb, hn⟩ := least (p := fun d => bad (s + d)) (k - s) (by simpa [show s + (k - s) = k by omega] using h3)
  exact fix_seq (F := F) (fun d => ((s + d : Nat) : Int)) j (fun next d hd => go next (s + d) (by omega) (by omega) (hn d hd)) fun next => stop next (s + j) (by omega) (by omega) hb
 ·intro h
  refine fix_seq (F := F) (fun d => ((s + d : Nat) : Int)) (n - s) (fun next d hd => go next (s + d) (by omega) (by omega) (h (s + d) (by omega) (by omega))) fun next => ?_
  rw [show s + (n - s) = n by omega]
  exact last next
theorem rwith_eq (a : List Int) (k : Int) (hl : a.length ≤ 17592186044000) (h : a.Pairwise fun x y => x < y) : Qv a k = some (Vp a [k]) := by
 unfold Qv
 rw [Ws _ _ (by omega), Jb]
 by_cases hk : k ∈ a
 ·rw [Qd hk, Jj]
  congr 1
  refine rise_same h (Jch _ _) fun x => ?_
  rw [join_mem, List.mem_singleton]
  exact ⟨.inl, fun hx => hx.elim id fun e => e ▸ hk⟩
 ·rw [Qh hk, Ji]
  unfold Jg
  rw [W9 (by simp; omega), Jb, Jb, List.nil_append, W9 (by simp; omega), Jb]
  unfold gSortI
  rw [if_pos (by simp; omega), Jb]
  congr 1
  refine rise_same (sorted_lt (plus_nodup (lt_nodup h) hk)) (Jch _ _) fun x => ?_
  rw [join_mem, List.mem_singleton]
  exact plus_mem
theorem rwithout_eq (a : List Int) (k : Int) (hl : a.length ≤ 17592186044010) : J4 a k = some (less a [k]) := by
 unfold J4 Jg
 rw [W9 (by simp; omega), Jb, Jb, List.nil_append, delete_eq a (R_without_1 k) (fun x => decide (x = k)) hl (fun x _ => rfl), Jb]
 congr 1
 unfold less
 congr 1
 funext x
 simp
theorem clone_eq (a : List Int) (hl : a.length ≤ 17592186044010) : Jg a = some a := by
 unfold Jg
 rw [W9 (by simp; omega), Jb, List.nil_append]
theorem rfolk_eq (ps : List T_face_Person) (hn : ps.length ≤ 100) (hsz : ∀ p ∈ ps, PSz p) : R_Folk ps = some ps := by
 unfold R_Folk
 refine fix_seq (F := fun next1 s => R_Folk_l1 ps next1 s.1 s.2.1 s.2.2) (fun k => ((ps.length : Int), (k : Int), ps.take k)) ps.length (fun next k hk => ?_) fun next => ?_
 ·have hz := hsz _ (List.getElem_mem hk)
  simp only [R_Folk_l1]
  rw [Qd (by omega), Jj, J6 hk, Jb, clone_eq _ (by have := hz.1; omega), Jb, clone_eq _ (by have := hz.2; omega), Jb, W9 (by simp; omega), Jb, Qi (by omega), Jb, List.take_succ_eq_append_getElem hk]
  rfl
 ·simp only [R_Folk_l1]
  rw [Qh (by omega), Ji, List.take_length]
theorem idx_none {α : Type} {g : α → Bool} {l : List α} (h : ∀ x ∈ l, g x = false) : idx g l = -1 := by
 unfold idx
 rw [List.findIdx?_eq_none_iff.2 h]
theorem idx_some {α : Type} {g : α → Bool} {l : List α} {n : Nat} (hn : n < l.length) (h : g l[n] = true) (h2 : ∀ (j : Nat) (hj : j < n), g l[j] = false) : idx g l = n := by
 unfold idx
 rw [List.findIdx?_eq_some_iff_getElem.2 ⟨hn, h, fun j hj => by rw [h2 j hj]; simp⟩]
theorem rpersonAt_eq (ps : List T_face_Person) (id : Int) (hl : ps.length ≤ 100) : Zt ps id = some (idx (fun p => decide (p.Id = id)) ps) := by
 unfold Zt
 rw [Jcm ps (R_PersonAt_1 id) (fun p => decide (p.Id = id)) (by omega) (fun _ _ => rfl), Jb]
theorem rperson_at (ps : List T_face_Person) (hr : ps.Pairwise fun p q => p.Id < q.Id) (hl : ps.length ≤ 100) (n : Nat) (hn : n < ps.length) : Zt ps ps[n].Id = some (n : Int) := by
 have hp := List.pairwise_iff_getElem.1 hr
 rw [rpersonAt_eq ps _ hl]
 congr 1
 refine idx_some hn (Qd rfl) fun j hj => Qh ?_
 have := hp j n (by omega) hn hj
 omega
theorem persons (ps : List T_face_Person) (hr : ps.Pairwise fun p q => p.Id < q.Id) (hl : ps.length ≤ 100) (id : Int) :
  (∃ (n : Nat) (hn : n < ps.length), ps[n].Id = id ∧ Zv ps id = some ((n : Int), true) ∧ Zt ps id = some (n : Int)) ∨ (∀ p ∈ ps, p.Id ≠ id) ∧ (∃ i, Zv ps id = some (i, false)) ∧ Zt ps id = some (-1) := by
 by_cases h : ∀ p ∈ ps, p.Id ≠ id
 ·refine .inr ⟨h, personAt_not ps hr hl id h, ?_⟩
  rw [rpersonAt_eq ps id hl, idx_none fun p hp => Qh (h p hp)]
 ·have : ∃ p ∈ ps, p.Id = id := Classical.byContradiction fun h2 => h fun p hp e => h2 ⟨p, hp, e⟩
  obtain ⟨p, hp, e⟩ := this
  obtain ⟨n, hn, rfl⟩ := List.getElem_of_mem hp
  refine .inl ⟨n, hn, e, ?_, ?_⟩
  ·rw [← e]; exact personAt_eq ps hr hl n hn
  ·rw [← e]; exact rperson_at ps hr hl n hn
theorem folk_of {l : List T_face_Likeness} {ps : List T_face_Person} (hr : Right l ps) : Folk l ps := ⟨hr.len, fun p hp => ⟨(hr.all p hp).likes, (hr.all p hp).nots⟩, hr.rise⟩
theorem owners {l : List T_face_Likeness} (hg : Good l) {ps : List T_face_Person} (hr : Right l ps) (id : Int) : ∃ o, Ut ps id = some o ∧ Jbm ps id = some o ∧ (0 ≤ o ↔ ∃ p ∈ ps, id ∈ p.Likes) := by
 obtain ⟨o, h1, h2⟩ := owner_is hr.len (Zg hg hr) (fun p hp => (Jcd hr p hp).1) id
 obtain ⟨n, h3, h4⟩ := owner_eq (folk_of hr) (Zg hg hr) id
 have : o = n := Option.some.inj (h1.symm.trans h3)
 subst this
 exact ⟨o, h1, h4, h2⟩
theorem likes_at {l : List T_face_Likeness} (hg : Good l) (id : Int) :
  (l.any (has id) = true ∧ ∃ k : Nat, Jbh l id = some ((k : Int), true) ∧ Jk l (k : Int) = some (like l id) ∧ Qb l id = some (k : Int)) ∨ (∃ i, Jbh l id = some (i, false)) ∧ Qb l id = some (-1) := by
 cases h : l.any (has id) with
 | true =>
  obtain ⟨k, hk, h1, h2, h3⟩ := Jbr hg h
  exact .inl ⟨rfl, k, h1, h2, h3⟩
 | false =>
  have := hg.len
  refine .inr ⟨good_at_not hg h, ?_⟩
  rw [likeAt_eq l id (by omega), idx_none fun x hx => by have := List.any_eq_false.1 h x hx; simpa using this]
theorem ids_join {l : List T_face_Likeness} {a b : List Int} (ha : IdsOk l a) (hb : ∀ k ∈ b, l.any (has k) = true) : IdsOk l (Vp a b) := ⟨fun k hk => (join_mem.1 hk).elim (ha.all k) (hb k), Jch _ _⟩
theorem ids_less {l : List T_face_Likeness} {a b : List Int} (ha : IdsOk l a) : IdsOk l (less a b) := ⟨fun k hk => ha.all k (less_mem.1 hk).1, less_rise ha.rise⟩
def joins (a ks : List Int) : List Int := ks.foldl (fun a k => Vp a [k]) a
def lesss (a ks : List Int) : List Int := ks.foldl (fun a k => less a [k]) a
theorem joins_spec : ∀ (ks a : List Int), (a.Pairwise fun x y => x < y) → ((joins a ks).Pairwise fun x y => x < y) ∧ ∀ k, k ∈ joins a ks ↔ k ∈ a ∨ k ∈ ks
 | [], a, h => ⟨h, fun k => by simp [joins]⟩
 | x :: ks, a, h => by
  obtain ⟨h1, h2⟩ := joins_spec ks (Vp a [x]) (Jch _ _)
  refine ⟨h1, fun k => ?_⟩
  show k ∈ joins (Vp a [x]) ks ↔ _
  rw [h2, join_mem, List.mem_singleton, List.mem_cons, or_assoc]
theorem lesss_spec : ∀ (ks a : List Int), (a.Pairwise fun x y => x < y) → ((lesss a ks).Pairwise fun x y => x < y) ∧ ∀ k, k ∈ lesss a ks ↔ k ∈ a ∧ k ∉ ks
 | [], a, h => ⟨h, fun k => by simp [lesss]⟩
 | x :: ks, a, h => by
  obtain ⟨h1, h2⟩ := lesss_spec ks (less a [x]) (less_rise h)
  refine ⟨h1, fun k => ?_⟩
  show k ∈ lesss (less a [x]) ks ↔ _
  rw [h2, less_mem, List.mem_singleton, List.mem_cons, not_or, and_assoc]
theorem joins_eq {a ks : List Int} (h : a.Pairwise fun x y => x < y) : joins a ks = Vp a ks := rise_same (joins_spec ks a h).1 (Jch _ _) fun k => by rw [(joins_spec ks a h).2, join_mem]
theorem lesss_eq {a ks : List Int} (h : a.Pairwise fun x y => x < y) : lesss a ks = less a ks := rise_same (lesss_spec ks a h).1 (less_rise h) fun k => by rw [(lesss_spec ks a h).2, less_mem]
theorem joins_snoc (a ks : List Int) (k : Nat) (hk : k < ks.length) : joins a (ks.take (k + 1)) = Vp (joins a (ks.take k)) [ks[k]] := by
 unfold joins
 rw [List.take_succ_eq_append_getElem hk, List.foldl_append]
 rfl
theorem lesss_snoc (a ks : List Int) (k : Nat) (hk : k < ks.length) : lesss a (ks.take (k + 1)) = less (lesss a (ks.take k)) [ks[k]] := by
 unfold lesss
 rw [List.take_succ_eq_append_getElem hk, List.foldl_append]
 rfl
theorem joins_ids {l : List T_face_Likeness} {a ks : List Int} (ha : IdsOk l a) (hk : ∀ k ∈ ks, l.any (has k) = true) (j : Nat) : IdsOk l (joins a (ks.take j)) := by
 rw [joins_eq ha.rise]
 exact ids_join ha fun k h => hk k (List.mem_of_mem_take h)
theorem lesss_ids {l : List T_face_Likeness} {a ks : List Int} (ha : IdsOk l a) (j : Nat) : IdsOk l (lesss a (ks.take j)) := by
 rw [lesss_eq ha.rise]
 exact ids_less ha
structure Out (t : List T_face_Person × Int) : Prop where
 none : t.2 ≠ 0 → t.1 = []
 few : t.1.length ≤ 1000
 sz : ∀ p ∈ t.1, p.Likes.length ≤ 1000 ∧ p.Nots.length ≤ 1000
theorem Out.err (e : Int) : Out ([], e) := ⟨fun _ => rfl, by simp, by simp⟩
theorem Out.of {l : List T_face_Likeness} (hg : Good l) {ps : List T_face_Person} (h1 : ps.length ≤ 1000) (h2 : ∀ p ∈ ps, IdsOk l p.Likes ∧ IdsOk l p.Nots) : Out (ps, 0) := ⟨fun h => absurd rfl h, h1, fun p hp => by
 have := Jbe hg (h2 p hp).1
 have := Jbe hg (h2 p hp).2
 exact ⟨by omega, by omega⟩⟩
theorem same_self (ps : List T_face_Person) (hl : ps.length ≤ 1000) (hsz : ∀ p ∈ ps, p.Likes.length ≤ 1000 ∧ p.Nots.length ≤ 1000) : R_SameFolk ps ps = some true := by
 unfold R_SameFolk X9
 rw [Qh (by simp), Ji]
 have h := up (F := fun next1 s => Qx ps ps R_SameFolk_1 next1 s) ps.length (fun _ => some true) (fun next k hk ih => by
  simp only [Qx]
  rcases Nat.lt_or_ge k ps.length with h | h
  ·have hz := hsz _ (List.getElem_mem h)
   rw [Qd (by omega), Jj, J6 h, Jb, Jb]
   unfold R_SameFolk_1
   rw [Qd rfl, Jj, Qd rfl, Jj, equal_ints _ (by omega), Jb, Jj, equal_ints _ (by omega), Jb, Jb, Bool.not_true, Ji, Qi (by omega), Jb, ih h]
  ·rw [Qh (by omega), Ji])
 rw [h, Jb]
theorem folk_self {t : List T_face_Person × Int} (h : Out t) : Uf t.1 t.2 t.1 t.2 = some true := by
 unfold Uf Law_folk_j1
 by_cases h0 : t.2 = 0
 ·rw [Qh (by simpa using h0), Ji, same_self _ h.few h.sz, Jb, Jj, Qd rfl]
 ·rw [Qd h0, Jj, h.none h0, same_self [] (by simp) (by simp), Jb, Jj, Qd rfl]
end Go.M

/- FaceChanges in plain Lean: Confirm is ConfirmOf, Deny is DenyOf. Conditions: few elements. -/
namespace Go.M
open Go.Md Go.Pl
set_option linter.unusedVariables false
section ops
variable {l : List T_face_Likeness} (hg : Good l) (hc : V3 l = some 0) {ps : List T_face_Person} (hr : Right l ps)
include hg hc hr
theorem boths (person id : Int) : (∃ (n k : Nat) (hn : n < ps.length), ps[n].Id = person ∧ l.any (has id) = true ∧ Wa l ps person id = some ((n : Int), 0) ∧ Zt ps person = some (n : Int) ∧ Qb l id = some (k : Int) ∧ Jk l (k : Int) = some (like l id)) ∨
  Wa l ps person id = some (0, 7) ∧ ((∃ n : Int, n < 0 ∧ Zt ps person = some n) ∨ ∃ n k : Int, ¬ n < 0 ∧ k < 0 ∧ Zt ps person = some n ∧ Qb l id = some k) := by
 unfold Wa
 rw [check_of hg hc hr (Zg hg hr), Jb, Qh (by simp), Ji]
 rcases persons ps hr.rise hr.len person with ⟨n, hn, h1, h2, h3⟩ | ⟨_, ⟨i, h2⟩, h3⟩
 ·rw [h2, Jb]
  rcases likes_at hg id with ⟨h4, k, h5, h6, h7⟩ | ⟨⟨j, h5⟩, h7⟩
  ·refine .inl ⟨n, k, hn, h1, h4, ?_, h3, h7, h6⟩
   rw [h5, Jb]
   rfl
  ·refine .inr ⟨?_, .inr ⟨n, -1, by omega, by omega, h3, h7⟩⟩
   rw [h5, Jb]
   rfl
 ·refine .inr ⟨?_, .inl ⟨-1, by omega, h3⟩⟩
  rw [h2, Jb]
  rcases likes_at hg id with ⟨h4, k, h5, h6, h7⟩ | ⟨⟨j, h5⟩, h7⟩
  ·rw [h5, Jb]
   rfl
  ·rw [h5, Jb]
   rfl
theorem confirms (person id : Int) : ∃ t, Jbj l ps person id = some t ∧ R_ConfirmOf l ps person id = some t ∧ Out t := by
 unfold Jbj R_ConfirmOf
 rcases boths hg hc hr person id with ⟨n, k, hn, h1, h2, h3, h4, h5, h6⟩ | ⟨h3, h⟩
 ·have hok := hr.all _ (List.getElem_mem hn)
  have hsz := Jcv hg hr _ (List.getElem_mem hn)
  obtain ⟨o, o1, o2, o3⟩ := owners hg hr id
  rw [h3, Jb, Qh (by simp), Ji, o1, Jb, h4, Jb, Qh (show ¬ (n : Int) < 0 by omega), Ji, h5, Jb, Qh (show ¬ (k : Int) < 0 by omega), Ji, o2, Jb]
  by_cases c1 : 0 ≤ o
  ·rw [Qd c1, Jj, Jj]
   exact ⟨_, rfl, rfl, .err 6⟩
  rw [Qh c1, Ji, Ji]
  by_cases c2 : Zi l id ∈ Xw l ps[n].Likes
  ·refine ⟨([], 11), ?_, ?_, .err 11⟩
   ·rw [J6 hn, Jb, Ja4 hg _ id (by omega) h2 hok.likes.all, Jb, Qd c2, Jj]
   ·rw [J6 hn, Jb, Jb, h6, Jb, Jca hg _ _ (by omega) hok.likes.all, Jb, Qd (show (like l id).Photo ∈ Xw l ps[n].Likes from c2), Jj]
  have hn2 : ∀ x : T_face_Person, n < (ps.set n x).length := fun x => by simpa using hn
  refine ⟨(ps.set n ⟨ps[n].Id, ps[n].Name, Vp ps[n].Likes [id], less ps[n].Nots [id]⟩, 0), ?_, ?_, Out.of hg (by simp only [List.length_set]; have := hr.len; omega) fun p hp => ?_⟩
  ·rw [J6 hn, Jb, Ja4 hg _ id (by omega) h2 hok.likes.all, Jb, Qh c2, Ji, copy_eq ps hr.len (Zg hg hr) (Jcd hr), Jb, J6 hn, Jb,
    with_join _ _ (by simp; omega), Jb, Jb, without_less _ _ (by omega) (by simp), Jb, Jb, Un (by omega) (by rw [Int.toNat_natCast]; exact hn), Jb, Int.toNat_natCast, J6 (hn2 _), Jb, Un (by omega) (by rw [Int.toNat_natCast]; exact hn2 _), Jb, Int.toNat_natCast, List.set_set, List.getElem_set_self]
  ·rw [J6 hn, Jb, Jb, h6, Jb, Jca hg _ _ (by omega) hok.likes.all, Jb, Qh (show ¬ (like l id).Photo ∈ Xw l ps[n].Likes from c2), Ji, rfolk_eq ps hr.len (Zg hg hr), Jb, J6 hn, Jb,
    rwith_eq _ _ (by omega) hok.likes.rise, Jb, Jb, rwithout_eq _ _ (by omega), Jb, Jb, Un (by omega) (by rw [Int.toNat_natCast]; exact hn), Jb, Int.toNat_natCast, J6 (hn2 _), Jb, Un (by omega) (by rw [Int.toNat_natCast]; exact hn2 _), Jb, Int.toNat_natCast, List.set_set, List.getElem_set_self]
  ·rcases List.mem_or_eq_of_mem_set hp with h | h
   ·exact ⟨(hr.all p h).likes, (hr.all p h).nots⟩
   ·rw [h]; exact ⟨ids_join hok.likes (by simpa using h2), ids_less hok.nots⟩
 ·rw [h3, Jb, Qd (by simp), Jj]
  refine ⟨_, rfl, ?_, .err 7⟩
  rcases h with ⟨n, a1, a2⟩ | ⟨n, k, a1, a2, a3, a4⟩
  ·rw [a2, Jb, Qd a1, Jj]
  ·rw [a3, Jb, Qh a1, Ji, a4, Jb, Qd a2, Jj]
theorem denies (person id : Int) : ∃ t, face_Deny l ps person id = some t ∧ R_DenyOf l ps person id = some t ∧ Out t := by
 unfold face_Deny R_DenyOf
 rcases boths hg hc hr person id with ⟨n, k, hn, h1, h2, h3, h4, h5, h6⟩ | ⟨h3, h⟩
 ·have hok := hr.all _ (List.getElem_mem hn)
  have hsz := Jcv hg hr _ (List.getElem_mem hn)
  rw [h3, Jb, Qh (by simp), Ji, h4, Jb, Qh (show ¬ (n : Int) < 0 by omega), Ji, h5, Jb, Qh (show ¬ (k : Int) < 0 by omega), Ji]
  by_cases c1 : id ∈ ps[n].Nots
  ·refine ⟨([], 6), ?_, ?_, .err 6⟩
   ·rw [J6 hn, Jb, Uo _ _ hok.nots.rise (by omega), Jb, Qd c1, Jj]
   ·rw [J6 hn, Jb, Ws _ _ (by omega), Jb, Qd c1, Jj]
  have hn2 : ∀ x : T_face_Person, n < (ps.set n x).length := fun x => by simpa using hn
  refine ⟨(ps.set n ⟨ps[n].Id, ps[n].Name, less ps[n].Likes [id], Vp ps[n].Nots [id]⟩, 0), ?_, ?_, Out.of hg (by simp only [List.length_set]; have := hr.len; omega) fun p hp => ?_⟩
  ·rw [J6 hn, Jb, Uo _ _ hok.nots.rise (by omega), Jb, Qh c1, Ji, copy_eq ps hr.len (Zg hg hr) (Jcd hr), Jb, J6 hn, Jb,
    with_join _ _ (by simp; omega), Jb, Jb, without_less _ _ (by omega) (by simp), Jb, Jb, Un (by omega) (by rw [Int.toNat_natCast]; exact hn), Jb, Int.toNat_natCast, J6 (hn2 _), Jb, Un (by omega) (by rw [Int.toNat_natCast]; exact hn2 _), Jb, Int.toNat_natCast, List.set_set, List.getElem_set_self]
  ·rw [J6 hn, Jb, Ws _ _ (by omega), Jb, Qh c1, Ji, rfolk_eq ps hr.len (Zg hg hr), Jb, J6 hn, Jb,
    rwithout_eq _ _ (by omega), Jb, Jb, rwith_eq _ _ (by omega) hok.nots.rise, Jb, Jb, Un (by omega) (by rw [Int.toNat_natCast]; exact hn), Jb, Int.toNat_natCast, J6 (hn2 _), Jb, Un (by omega) (by rw [Int.toNat_natCast]; exact hn2 _), Jb, Int.toNat_natCast, List.set_set, List.getElem_set_self]
  ·rcases List.mem_or_eq_of_mem_set hp with h | h
   ·exact ⟨(hr.all p h).likes, (hr.all p h).nots⟩
   ·rw [h]; exact ⟨ids_less hok.likes, ids_join hok.nots (by simpa using h2)⟩
 ·rw [h3, Jb, Qd (by simp), Jj]
  refine ⟨_, rfl, ?_, .err 7⟩
  rcases h with ⟨n, a1, a2⟩ | ⟨n, k, a1, a2, a3, a4⟩
  ·rw [a2, Jb, Qd a1, Jj]
  ·rw [a3, Jb, Qh a1, Ji, a4, Jb, Qd a2, Jj]
end ops
end Go.M

/- FaceChanges in plain Lean: Merge is MergeFolk. Conditions: few elements. -/
namespace Go.M
open Go.Md Go.Pl
set_option linter.unusedVariables false
def upd (ps : List T_face_Person) (n : Nat) (hn : n < ps.length) (A B : List Int) : List T_face_Person := ps.set n ⟨ps[n].Id, ps[n].Name, A, B⟩
section upd
variable {ps : List T_face_Person} {n : Nat} (hn : n < ps.length)
theorem upd_self : upd ps n hn ps[n].Likes ps[n].Nots = ps := List.set_getElem_self ..
theorem upd_len (A B : List Int) : (upd ps n hn A B).length = ps.length := List.length_set ..
theorem at_upd (A B : List Int) : Jk (upd ps n hn A B) (n : Int) = some ⟨ps[n].Id, ps[n].Name, A, B⟩ := by
 rw [J6 (by rw [upd_len]; exact hn)]
 congr 1
 exact List.getElem_set_self ..
theorem set_upd (A B A' B' : List Int) : Q6 (upd ps n hn A B) (n : Int) ⟨ps[n].Id, ps[n].Name, A', B'⟩ = some (upd ps n hn A' B') := by
 rw [Un (by omega) (by rw [Int.toNat_natCast, upd_len]; exact hn), Int.toNat_natCast]
 congr 1
 exact List.set_set ..
theorem set_ps (A' B' : List Int) : Q6 ps (n : Int) ⟨ps[n].Id, ps[n].Name, A', B'⟩ = some (upd ps n hn A' B') := by
 rw [Un (by omega) (by rw [Int.toNat_natCast]; exact hn), Int.toNat_natCast]
 rfl
theorem upd_mem {A B : List Int} {p : T_face_Person} (h : p ∈ upd ps n hn A B) : p ∈ ps ∨ p = ⟨ps[n].Id, ps[n].Name, A, B⟩ := List.mem_or_eq_of_mem_set h
end upd
section ops
variable {l : List T_face_Likeness} (hg : Good l) (hc : V3 l = some 0) {ps : List T_face_Person} (hr : Right l ps)
include hg hc hr
theorem merges (a b : Int) : ∃ t, face_Merge l ps a b = some t ∧ R_MergeFolk l ps a b = some t ∧ Out t := by
 unfold face_Merge R_MergeFolk
 rw [check_of hg hc hr (Zg hg hr), Jb, Qh (by simp), Ji]
 rcases persons ps hr.rise hr.len a with ⟨n, hn, h1, h2, h3⟩ | ⟨_, ⟨i, h2⟩, h3⟩
 ·rcases persons ps hr.rise hr.len b with ⟨m, hm, g1, g2, g3⟩ | ⟨_, ⟨i, g2⟩, g3⟩
  ·rw [h2, Jb, g2, Jb, Bool.not_true, Ji, Ji, h3, Jb, g3, Jb, Qh (show ¬ (n : Int) < 0 by omega), Ji, Qh (show ¬ (m : Int) < 0 by omega), Ji]
   by_cases e : a = b
   ·have hnm : n = m := by
     rcases Nat.lt_trichotomy n m with h | h | h
     ·have := List.pairwise_iff_getElem.1 hr.rise n m hn hm h; omega
     ·exact h
     ·have := List.pairwise_iff_getElem.1 hr.rise m n hm hn h; omega
    rw [Qd e, Jj, Qd (show (n : Int) = m by omega), Jj]
    exact ⟨_, rfl, rfl, .err 1⟩
   have hnm : n ≠ m := fun h => e (by subst h; rw [← h1, ← g1])
   rw [Qh e, Ji, Qh (show ¬ (n : Int) = m by omega), Ji, J6 hn, J6 hm, Jb, Jb, Jb]
   have hok := hr.all _ (List.getElem_mem hn)
   have hok2 := hr.all _ (List.getElem_mem hm)
   have hsz := Jcv hg hr _ (List.getElem_mem hn)
   have hsz2 := Jcv hg hr _ (List.getElem_mem hm)
   have hcon : X0 ps[m].Likes (Jcl l ps[n]) = some (ps[m].Likes.any fun k => decide (Zi l k ∈ Xw l ps[n].Likes)) :=
    Jal ps[m].Likes (Jcl l ps[n]) _ (by omega) fun k hk => by
     unfold Jcl
     rw [Ja4 hg _ k (by omega) (hok2.likes.all k hk) hok.likes.all, Jb]
   have hlook := fix_look (F := fun next8 s => W8 l ps (n : Int) (m : Int) ps[m] next8 s) 0 ps[m].Likes.length (fun j => ∃ h : j < ps[m].Likes.length, Zi l ps[m].Likes[j] ∈ Xw l ps[n].Likes) (A := some ([], 11)) (B := Jcr ps (n : Int) (m : Int)) (Nat.zero_le _)
    (fun next k _ hk hb => by
     simp only [W8]
     obtain ⟨q, hq, a1, a2, a3⟩ := Jbr hg (hok2.likes.all _ (List.getElem_mem hk))
     rw [Qd (by omega), Jj, J6 hk, Jb, J6 hn, Jb, a3, Jb, a2, Jb, Jca hg _ _ (by omega) hok.likes.all, Jb, Qh (fun (h : (like l ps[m].Likes[k]).Photo ∈ Xw l ps[n].Likes) => hb ⟨hk, h⟩), Ji, Qi (by omega), Jb]
     rfl)
    (fun next k _ hk hb => by
     simp only [W8]
     obtain ⟨q, hq, a1, a2, a3⟩ := Jbr hg (hok2.likes.all _ (List.getElem_mem hk))
     rw [Qd (by omega), Jj, J6 hk, Jb, J6 hn, Jb, a3, Jb, a2, Jb, Jca hg _ _ (by omega) hok.likes.all, Jb, Qd (show (like l ps[m].Likes[k]).Photo ∈ Xw l ps[n].Likes from hb.2), Jj])
    (fun next => by
     simp only [W8]
     rw [Qh (by omega), Ji])
   rw [hcon, Jb]
   cases hany : ps[m].Likes.any fun k => decide (Zi l k ∈ Xw l ps[n].Likes) with
   | true =>
    refine ⟨([], 11), by rw [Jj], hlook.1 ?_, .err 11⟩
    obtain ⟨k, hk, h⟩ := List.any_eq_true.1 hany
    obtain ⟨j, hj, rfl⟩ := List.getElem_of_mem hk
    exact ⟨j, Nat.zero_le _, hj, hj, by simpa using h⟩
   | false =>
    have hno : ∀ k, 0 ≤ k → k < ps[m].Likes.length → ¬ ∃ h : k < ps[m].Likes.length, Zi l ps[m].Likes[k] ∈ Xw l ps[n].Likes := fun k _ _ ⟨hk, h⟩ => by
     have := List.any_eq_false.1 hany _ (List.getElem_mem hk)
     exact absurd h (by simpa using this)
    have hR := hlook.2 hno
    have i1 : IdsOk l (Vp ps[n].Likes ps[m].Likes) := ids_join hok.likes hok2.likes.all
    have i2 : IdsOk l (Vp ps[n].Nots ps[m].Nots) := ids_join hok.nots hok2.nots.all
    have i3 : IdsOk l (less (Vp ps[n].Nots ps[m].Nots) (Vp ps[n].Likes ps[m].Likes)) := ids_less i2
    have s1 := Jbe hg i1
    have s2 := Jbe hg i2
    have hlen := hr.len
    have hdel : ∀ A B, gDelN (upd ps n hn A B) (m : Int) ((m : Int) + 1) = some (delL (upd ps n hn A B) (m : Int) ((m : Int) + 1)) := fun A B => gDelN_ok (by rw [upd_len]; omega)
    refine ⟨(delL (upd ps n hn (Vp ps[n].Likes ps[m].Likes) (less (Vp ps[n].Nots ps[m].Nots) (Vp ps[n].Likes ps[m].Likes))) (m : Int) ((m : Int) + 1), 0), ?_, hR.trans ?_, Out.of hg ?_ fun p hp => ?_⟩
    ·rw [Ji, copy_eq ps hr.len (Zg hg hr) (Jcd hr), Jb, with_join _ _ (by omega), Jb, J6 hn, Jb, set_ps hn, Jb, with_join _ _ (by omega), Jb, at_upd hn, Jb, without_less _ _ (by omega) (by simp only; omega), Jb, Jb, set_upd hn, Jb, Qi (by omega), Jb, hdel, Jb]
    ·unfold Jcr
     rw [rfolk_eq ps hr.len (Zg hg hr), Jb, J6 hm, Jb]
     have L7 := fix_seq (F := fun next7 s => U1 ps (n : Int) (m : Int) ps[m] next7 s.1 s.2) (fun k => ((k : Int), upd ps n hn (joins ps[n].Likes (ps[m].Likes.take k)) ps[n].Nots)) ps[m].Likes.length (J := Jcy ps (n : Int) (m : Int) (upd ps n hn (Vp ps[n].Likes ps[m].Likes) ps[n].Nots))
      (fun next k hk => by
       have hi := joins_ids hok.likes hok2.likes.all k
       have := Jbe hg hi
       simp only [U1]
       rw [Qd (by omega), Jj, J6 hk, Jb, at_upd hn, Jb, rwith_eq _ _ (by omega) hi.rise, Jb, Jb, set_upd hn, Jb, Qi (by omega), Jb, joins_snoc _ _ k hk]
       rfl)
      (fun next => by
       simp only [U1]
       rw [Qh (by omega), Ji, List.take_length, joins_eq hok.likes.rise])
     have e7 : ((((0 : Nat) : Int), upd ps n hn (joins ps[n].Likes (ps[m].Likes.take 0)) ps[n].Nots) : Int × List T_face_Person) = (0, ps) := by
      show ((0 : Int), upd ps n hn ps[n].Likes ps[n].Nots) = (0, ps)
      rw [upd_self]
     rw [e7] at L7
     rw [L7]
     unfold Jcy
     rw [J6 hm, Jb]
     have L6 := fix_seq (F := fun next6 s => U3 (n : Int) (m : Int) ps[m] next6 s.1 s.2) (fun k => ((k : Int), upd ps n hn (Vp ps[n].Likes ps[m].Likes) (joins ps[n].Nots (ps[m].Nots.take k)))) ps[m].Nots.length (J := Jcw (n : Int) (m : Int) (upd ps n hn (Vp ps[n].Likes ps[m].Likes) (Vp ps[n].Nots ps[m].Nots)))
      (fun next k hk => by
       have hi := joins_ids hok.nots hok2.nots.all k
       have := Jbe hg hi
       simp only [U3]
       rw [Qd (by omega), Jj, J6 hk, Jb, at_upd hn, Jb, rwith_eq _ _ (by omega) hi.rise, Jb, Jb, set_upd hn, Jb, Qi (by omega), Jb, joins_snoc _ _ k hk]
       rfl)
      (fun next => by
       simp only [U3]
       rw [Qh (by omega), Ji, List.take_length, joins_eq hok.nots.rise])
     refine Eq.trans ?_ (L6.trans ?_)
     ·rfl
     unfold Jcw
     rw [at_upd hn, Jb]
     have L5 := fix_seq (F := fun next5 s => U8 (n : Int) (m : Int) ⟨ps[n].Id, ps[n].Name, Vp ps[n].Likes ps[m].Likes, Vp ps[n].Nots ps[m].Nots⟩ next5 s.1 s.2.1 s.2.2) (fun k => (Vp ps[n].Likes ps[m].Likes, (k : Int), upd ps n hn (Vp ps[n].Likes ps[m].Likes) (lesss (Vp ps[n].Nots ps[m].Nots) ((Vp ps[n].Likes ps[m].Likes).take k)))) (Vp ps[n].Likes ps[m].Likes).length
      (J := Jck (m : Int) (upd ps n hn (Vp ps[n].Likes ps[m].Likes) (less (Vp ps[n].Nots ps[m].Nots) (Vp ps[n].Likes ps[m].Likes))))
      (fun next k hk => by
       have hi := lesss_ids (ks := Vp ps[n].Likes ps[m].Likes) i2 k
       have := Jbe hg hi
       simp only [U8]
       rw [Qd (by omega), Jj, J6 hk, Jb, at_upd hn, Jb, rwithout_eq _ _ (by simp only; omega), Jb, Jb, set_upd hn, Jb, Qi (by omega), Jb, lesss_snoc _ _ k hk]
       rfl)
      (fun next => by
       simp only [U8]
       rw [Qh (by omega), Ji, List.take_length, lesss_eq i2.rise])
     refine Eq.trans ?_ (L5.trans ?_)
     ·rfl
     unfold Jck
     rw [Qi (by omega), Jb, hdel, Jb]
    ·unfold delL
     rw [List.length_append, List.length_take, List.length_drop, upd_len]
     omega
    ·unfold delL at hp
     have : p ∈ upd ps n hn (Vp ps[n].Likes ps[m].Likes) (less (Vp ps[n].Nots ps[m].Nots) (Vp ps[n].Likes ps[m].Likes)) := (List.mem_append.1 hp).elim List.mem_of_mem_take List.mem_of_mem_drop
     rcases upd_mem hn this with h | h
     ·exact ⟨(hr.all p h).likes, (hr.all p h).nots⟩
     ·rw [h]; exact ⟨i1, i3⟩
  ·rw [h2, Jb, g2, Jb, Bool.not_true, Ji, h3, Jb, g3, Jb, Qh (show ¬ (n : Int) < 0 by omega), Ji, Qd (show (-1 : Int) < 0 by decide), Jj]
   exact ⟨_, rfl, rfl, .err 7⟩
 ·rw [h2, Jb, h3, Jb]
  rcases persons ps hr.rise hr.len b with ⟨m, hm, g1, g2, g3⟩ | ⟨_, ⟨j, g2⟩, g3⟩
  ·rw [g2, Jb, g3, Jb]
   exact ⟨_, rfl, rfl, .err 7⟩
  ·rw [g2, Jb, g3, Jb]
   exact ⟨_, rfl, rfl, .err 7⟩
end ops
end Go.M

/- FaceChanges in plain Lean: Split is SplitFolk. Conditions: few elements. -/
namespace Go.M
open Go.Md Go.Pl
set_option linter.unusedVariables false
theorem rise_step {ids : List Int} (h : ∀ (i : Nat) (hi : i + 1 < ids.length), ids[i] < ids[i + 1]) : ids.Pairwise fun x y => x < y := by
 have step : ∀ d i (hi : i < ids.length) (hd : i + d + 1 < ids.length), ids[i] < ids[i + d + 1] := by
  intro d
  induction d with
  | zero => intro i hi hd; exact h i hd
  | succ d ih =>
   intro i hi hd
   have h1 := ih i hi (by omega)
   have h2 : ids[i + d + 1] < ids[i + (d + 1) + 1] := h (i + d + 1) hd
   omega
 refine List.pairwise_iff_getElem.2 fun i j hi hj hij => ?_
 have := step (j - i - 1) i hi (by omega)
 simpa [show i + (j - i - 1) + 1 = j by omega] using this
theorem sort_ins (xs : List T_face_Person) (b : T_face_Person) (i : Nat) (h : (Wo xs (i : Int) b).Pairwise fun p q => p.Id < q.Id) : (xs ++ [b]).mergeSort (fun x y => decide (x.Id ≤ y.Id)) = Wo xs (i : Int) b := by
 have hp : (xs ++ [b]).Perm (Wo xs (i : Int) b) := by
  rw [insL_nat]
  have h1 : (xs ++ [b]).Perm (b :: xs) := List.perm_append_singleton b xs
  have h2 : (xs.take i ++ ([b] ++ xs.drop i)).Perm (b :: (xs.take i ++ xs.drop i)) := List.perm_middle
  rw [List.take_append_drop] at h2
  exact h1.trans h2.symm
 refine List.Perm.eq_of_pairwise (le := fun x y : T_face_Person => decide (x.Id ≤ y.Id) = true) (fun x y hx hy h1 h2 => ?_) (List.pairwise_mergeSort (le := fun x y : T_face_Person => decide (x.Id ≤ y.Id)) (fun a b c h1 h2 => by simp at *; omega) (fun a b => by simp; omega) _) (h.imp fun {x y} h => by simp; omega) ((List.mergeSort_perm _ _).trans hp)
 have hx2 : x ∈ Wo xs (i : Int) b := ((List.mergeSort_perm _ _).trans hp).mem_iff.1 hx
 obtain ⟨j, hj, rfl⟩ := List.getElem_of_mem hx2
 obtain ⟨k, hk, rfl⟩ := List.getElem_of_mem hy
 have hr := List.pairwise_iff_getElem.1 h
 have h1 : (Wo xs (i : Int) b)[j].Id ≤ (Wo xs (i : Int) b)[k].Id := by simpa using h1
 have h2 : (Wo xs (i : Int) b)[k].Id ≤ (Wo xs (i : Int) b)[j].Id := by simpa using h2
 rcases Nat.lt_trichotomy j k with h3 | h3 | h3
 ·have := hr j k hj hk h3; omega
 ·subst h3; rfl
 ·have := hr k j hk hj h3; omega
section ops
variable {l : List T_face_Likeness} (hg : Good l) (hc : V3 l = some 0) {ps : List T_face_Person} (hr : Right l ps)
include hg hr
theorem checks (person : Int) (ids : List Int) (name : List UInt8) (hids : ids.length ≤ 17592186044000) :
  (∃ x e, e ≠ 0 ∧ Ue ps person ids name = some (x, e) ∧ Jcj ps person ids name = some ([], e)) ∨
  ∃ (n : Nat) (hn : n < ps.length), ps[n].Id = person ∧ (∀ k ∈ ids, k ∈ ps[n].Likes) ∧ (ids.Pairwise fun x y => x < y) ∧ titleB name = true ∧ ps.length < 100 ∧ Ue ps person ids name = some ((n : Int), 0) ∧
   Jcj ps person ids name = Zx (fun next8 s => W7 ps ids name (n : Int) ps ids ps[n].Nots next8 s) 1 := by
 unfold Ue Jcj
 rcases persons ps hr.rise hr.len person with ⟨n, hn, h1, h2, h3⟩ | ⟨_, ⟨i, h2⟩, h3⟩
 ·have hok := hr.all _ (List.getElem_mem hn)
  have hsz := Jcv hg hr _ (List.getElem_mem hn)
  rw [h2, Jb, Bool.not_true, Ji, h3, Jb, Qh (show ¬ (n : Int) < 0 by omega), Ji, J6 hn, Jb]
  rw [Jal ids (Jav ps (n : Int)) (fun k => !decide (k ∈ ps[n].Likes)) (by omega) (fun k _ => by
   unfold Jav
   rw [J6 hn, Jb, Uo _ _ hok.likes.rise (by omega), Jb]), Jb]
  have L10 := fix_look (F := fun next10 s => Wk ps ids name (n : Int) ps[n] next10 s) 0 ids.length (fun k => ∃ h : k < ids.length, ids[k] ∉ ps[n].Likes) (A := some ([], 7)) (B := R_SplitFolk_j1 ps ids name (n : Int) ps[n]) (Nat.zero_le _)
   (fun next k _ hk hb => by
    have hm : ids[k] ∈ ps[n].Likes := Classical.byContradiction fun h => hb ⟨hk, h⟩
    simp only [Wk]
    rw [Qd (by omega), Jj, J6 hk, Jb, Ws _ _ (by omega), Jb, Qd hm, Bool.not_true, Ji, Qi (by omega), Jb]
    rfl)
   (fun next k _ hk hb => by
    simp only [Wk]
    rw [Qd (by omega), Jj, J6 hk, Jb, Ws _ _ (by omega), Jb, Qh hb.2, Bool.not_false, Jj])
   (fun next => by
    simp only [Wk]
    rw [Qh (by omega), Ji])
  cases hany : ids.any fun k => !decide (k ∈ ps[n].Likes) with
  | true =>
   refine .inl ⟨0, 7, by decide, by rw [Jj], L10.1 ?_⟩
   obtain ⟨k, hk, h⟩ := List.any_eq_true.1 hany
   obtain ⟨j, hj, rfl⟩ := List.getElem_of_mem hk
   exact ⟨j, Nat.zero_le _, hj, hj, by simpa using h⟩
  | false =>
   have hsub : ∀ k ∈ ids, k ∈ ps[n].Likes := fun k hk => by
    have := List.any_eq_false.1 hany k hk
    simpa using this
   have hR := L10.2 fun k _ hk ⟨_, h⟩ => h (hsub _ (List.getElem_mem hk))
   have F2 := fix_look (F := fun next2 s => Vh ps ids name ((n : Int), true) next2 s) 1 (max 1 ids.length) (fun k => ∃ h : k < ids.length, ids[k] ≤ ids[k - 1]) (A := some (0, 5)) (B := Jaf ps ids name ((n : Int), true)) (by omega)
    (fun next k h1 hk hb => by
     have hk : k < ids.length := by omega
     simp only [Vh]
     rw [Qd (by omega), Jj, J6 hk, Jb, Qi (by omega), Jb, show (k : Int) - 1 = ((k - 1 : Nat) : Int) by omega, J6 (show k - 1 < ids.length by omega), Jb, Qh (fun h => hb ⟨hk, h⟩), Ji, Qi (by omega), Jb]
     rfl)
    (fun next k h1 hk hb => by
     have hk : k < ids.length := by omega
     simp only [Vh]
     rw [Qd (by omega), Jj, J6 hk, Jb, Qi (by omega), Jb, show (k : Int) - 1 = ((k - 1 : Nat) : Int) by omega, J6 (show k - 1 < ids.length by omega), Jb, Qd hb.2, Jj])
    (fun next => by
     simp only [Vh]
     rw [Qh (by omega), Ji])
   have L9 := fix_look (F := fun next9 s => W6 ps ids name (n : Int) ps[n] next9 s) 1 (max 1 ids.length) (fun k => ∃ h : k < ids.length, ids[k] ≤ ids[k - 1]) (A := some ([], 5)) (B := Jcz ps ids name (n : Int) ps[n]) (by omega)
    (fun next k h1 hk hb => by
     have hk : k < ids.length := by omega
     simp only [W6]
     rw [Qd (by omega), Jj, J6 hk, Jb, Qi (by omega), Jb, show (k : Int) - 1 = ((k - 1 : Nat) : Int) by omega, J6 (show k - 1 < ids.length by omega), Jb, Qh (fun h => hb ⟨hk, h⟩), Ji, Qi (by omega), Jb]
     rfl)
    (fun next k h1 hk hb => by
     have hk : k < ids.length := by omega
     simp only [W6]
     rw [Qd (by omega), Jj, J6 hk, Jb, Qi (by omega), Jb, show (k : Int) - 1 = ((k - 1 : Nat) : Int) by omega, J6 (show k - 1 < ids.length by omega), Jb, Qd hb.2, Jj])
    (fun next => by
     simp only [W6]
     rw [Qh (by omega), Ji])
   rw [Ji]
   by_cases hbad : ∃ k, 1 ≤ k ∧ k < max 1 ids.length ∧ ∃ h : k < ids.length, ids[k] ≤ ids[k - 1]
   ·exact .inl ⟨0, 5, by decide, F2.1 hbad, hR.trans (L9.1 hbad)⟩
   have hno : ∀ k, 1 ≤ k → k < max 1 ids.length → ¬ ∃ h : k < ids.length, ids[k] ≤ ids[k - 1] := fun k h1 h2 h3 => hbad ⟨k, h1, h2, h3⟩
   have hrise : ids.Pairwise fun x y => x < y := rise_step fun i hi => by
    rcases Int.lt_or_le ids[i] ids[i + 1] with h | h
    ·exact h
    ·exact absurd ⟨hi, h⟩ (hno (i + 1) (by omega) (by omega))
   have eF := F2.2 hno
   have eR := hR.trans (L9.2 hno)
   unfold Jaf at eF
   unfold Jcz at eR
   by_cases c1 : (ids.length : Int) = 0
   ·rw [Qd c1, Jj] at eF eR
    exact .inl ⟨0, 1, by decide, eF, eR⟩
   rw [Qh c1, Ji] at eF eR
   rw [J6 hn, Jb] at eF
   by_cases c2 : (ids.length : Int) = (ps[n].Likes.length : Int)
   ·rw [Qd c2, Jj] at eF eR
    exact .inl ⟨0, 1, by decide, eF, eR⟩
   rw [Qh c2, Ji] at eF eR
   rw [isTitle_eq, Jb] at eF
   rw [TitleOk_eq, Jb] at eR
   cases c3 : titleB name with
   | false =>
    rw [c3, Bool.not_false, Jj] at eF eR
    exact .inl ⟨0, 3, by decide, eF, eR⟩
   | true =>
    rw [c3, Bool.not_true, Ji] at eF eR
    by_cases c4 : (100 : Int) ≤ (ps.length : Int)
    ·rw [Qd c4, Jj] at eF eR
     exact .inl ⟨0, 12, by decide, eF, eR⟩
    ·rw [Qh c4, Ji] at eF eR
     rw [rfolk_eq ps hr.len (Zg hg hr), Jb, clone_eq _ (by omega), Jb, clone_eq _ (by omega), Jb] at eR
     exact .inr ⟨n, hn, h1, hsub, hrise, rfl, by omega, eF, eR⟩
 ·rw [h2, Jb, h3, Jb, Bool.not_false, Jj]
  exact .inl ⟨0, 7, by decide, rfl, rfl⟩
include hc
theorem split_val (person : Int) (ids : List Int) (name : List UInt8) (n : Nat) (hn : n < ps.length) (hid : ps[n].Id = person) (hsub : ∀ k ∈ ids, k ∈ ps[n].Likes) (hrise : ids.Pairwise fun x y => x < y) (htitle : titleB name = true) (hfew : ps.length < 100) (ht : Ue ps person ids name = some ((n : Int), 0)) :
  ∃ i : Nat, (∀ (j : Nat) (h : j < ps.length), j < i → ps[j].Id = (j : Int) + 1) ∧ Parted ps person ids name (Wo (ps.set n (rest ps[n] ids)) (i : Int) (part ps[n] ids name i)) n i hn ∧ Ja3 l ps person ids name = some (Wo (ps.set n (rest ps[n] ids)) (i : Int) (part ps[n] ids name i), 0) := by
 unfold Ja3
 rw [check_of hg hc hr (Zg hg hr), Jb, Qh (by simp), Ji, ht, Jb, Qh (by simp), Ji, copy_eq ps hr.len (Zg hg hr) (Jcd hr), Jb]
 have hok := hr.all _ (List.getElem_mem hn)
 have hsz := Jcv hg hr _ (List.getElem_mem hn)
 have hi3 : ids.length ≤ 300 := by have := rise_len hrise hok.likes.rise hsub; omega
 have hless : (less ps[n].Likes ids).length ≤ 300 := by have := List.length_filter_le (fun k => !decide (k ∈ ids)) ps[n].Likes; unfold less; omega
 have hn2 : ∀ x : T_face_Person, n < (ps.set n x).length := fun x => by simpa using hn
 rw [J6 hn, Jb, without_less _ _ (by omega) (by omega), Jb, Un (by omega) (by rw [Int.toNat_natCast]; exact hn), Jb, Int.toNat_natCast, with_nil ids (by omega) hrise, Jb,
  J6 (hn2 _), Jb, Jb, List.getElem_set_self, with_join _ _ (by simp only; omega), Jb, Jb, with_join _ _ (by simp only; omega), Jb, Jb, Un (by omega) (by rw [Int.toNat_natCast]; exact hn2 _), Jb, Int.toNat_natCast, List.set_set]
 show ∃ i : Nat, _ ∧ _ ∧ Zx (fun next2 s => Up name ids (Vp ps[n].Nots (less ps[n].Likes ids)) (ps.set n (rest ps[n] ids)) next2 s.1 s.2) (0, 1) = _
 have hrs := List.pairwise_iff_getElem.1 hr.rise
 have hidj : ∀ (j : Nat) (h : j < ps.length), ((ps.set n (rest ps[n] ids))[j]'(by simpa using h)).Id = ps[j].Id := fun j h => by
  rw [List.getElem_set]
  split
  ·rename_i e; subst e; rfl
  ·rfl
 have hlen : (ps.set n (rest ps[n] ids)).length = ps.length := by simp
 have key : ∃ r, Zx (fun next2 s => Up name ids (Vp ps[n].Nots (less ps[n].Likes ids)) (ps.set n (rest ps[n] ids)) next2 s.1 s.2) (0, 1) = some r ∧ ∃ i : Nat, r = (Wo (ps.set n (rest ps[n] ids)) (i : Int) (part ps[n] ids name i), 0) ∧ i ≤ ps.length ∧ (∀ (j : Nat) (h : j < ps.length), j < i → ps[j].Id = (j : Int) + 1) ∧ ∀ (j : Nat) (h : j < ps.length), i ≤ j → (i : Int) + 1 < ps[j].Id := by
  refine Jaj (F := fun next2 s => Up name ids (Vp ps[n].Nots (less ps[n].Likes ids)) (ps.set n (rest ps[n] ids)) next2 s.1 s.2) (fun s : Int × Int => ∃ i : Nat, s.1 = i ∧ s.2 = (i : Int) + 1 ∧ i ≤ ps.length ∧ ∀ (j : Nat) (h : j < ps.length), j < i → ps[j].Id = (j : Int) + 1) (fun s => ps.length - s.1.toNat)
   (fun r => ∃ i : Nat, r = (Wo (ps.set n (rest ps[n] ids)) (i : Int) (part ps[n] ids name i), 0) ∧ i ≤ ps.length ∧ (∀ (j : Nat) (h : j < ps.length), j < i → ps[j].Id = (j : Int) + 1) ∧ ∀ (j : Nat) (h : j < ps.length), i ≤ j → (i : Int) + 1 < ps[j].Id) ?_ (0, 1) ⟨0, rfl, rfl, Nat.zero_le _, fun j _ h => by omega⟩
  rintro ⟨_, _⟩ ⟨i, rfl, rfl, hi, hlow⟩
  simp only [Up]
  have hj1 : gInsN 72 (ps.set n (rest ps[n] ids)) (i : Int) (⟨(i : Int) + 1, name, ids, Vp ps[n].Nots (less ps[n].Likes ids)⟩ : T_face_Person) = some (Wo (ps.set n (rest ps[n] ids)) (i : Int) (part ps[n] ids name i)) := gInsN_ok (by rw [hlen]; omega)
  rcases Nat.lt_or_ge i ps.length with h | h
  ·by_cases c : ps[i].Id = (i : Int) + 1
   ·refine .inr ⟨((i : Int) + 1, (i : Int) + 1 + 1), ⟨i + 1, by simp, by simp, h, fun j hj hji => ?_⟩, by simp only; omega, fun next => ?_⟩
    ·rcases Nat.lt_or_ge j i with h2 | h2
     ·exact hlow j hj h2
     ·have : j = i := by omega
      subst this; exact c
    ·rw [Qd (by rw [hlen]; omega), Jj, J6 (show i < (ps.set n (rest ps[n] ids)).length by rw [hlen]; exact h), Jb, Qd (by rw [hidj i h]; exact c), Jj, Qi (by omega), Jb, Qi (by omega), Jb]
   ·have hab : ∀ (j : Nat) (h : j < ps.length), i ≤ j → (i : Int) + 1 < ps[j].Id := fun j hj hij => by
     have h1 : (i : Int) + 1 < ps[i].Id := by
      have h3 := (hr.all _ (List.getElem_mem h)).idr.1
      rcases Nat.eq_zero_or_pos i with h0 | h0
      ·subst h0; simp at c ⊢; omega
      ·have h4 := hrs (i - 1) i (by omega) h (by omega)
       have h5 := hlow (i - 1) (by omega) (by omega)
       omega
     rcases Nat.lt_or_ge i j with h2 | h2
     ·have := hrs i j h hj h2; omega
     ·have : j = i := by omega
      subst this; exact h1
    refine .inl ⟨(Wo (ps.set n (rest ps[n] ids)) (i : Int) (part ps[n] ids name i), 0), ⟨i, rfl, hi, hlow, hab⟩, fun next => ?_⟩
    rw [Qd (by rw [hlen]; omega), Jj, J6 (show i < (ps.set n (rest ps[n] ids)).length by rw [hlen]; exact h), Jb, Qh (by rw [hidj i h]; exact c), Ji]
    unfold Jb1
    rw [hj1, Jb]
  ·refine .inl ⟨(Wo (ps.set n (rest ps[n] ids)) (i : Int) (part ps[n] ids name i), 0), ⟨i, rfl, hi, hlow, fun j hj hij => by omega⟩, fun next => ?_⟩
   rw [Qh (by rw [hlen]; omega), Ji]
   unfold Jb1
   rw [hj1, Jb]
 obtain ⟨r, e, i, rfl, hi, hlow, hab⟩ := key
 exact ⟨i, hlow, ⟨hid, hsub, hrise, htitle, hfew, hi, fun j h hj => by have := hlow j h hj; omega, hab, rfl⟩, e⟩
theorem splits (person : Int) (ids : List Int) (name : List UInt8) (hids : ids.length ≤ 17592186044000) : ∃ t, Ja3 l ps person ids name = some t ∧ Jcj ps person ids name = some t ∧ Out t := by
 rcases checks hg hr person ids name hids with ⟨x, e, he, h1, h2⟩ | ⟨n, hn, hid, hsub, hrise, htitle, hfew, h1, h2⟩
 ·refine ⟨([], e), ?_, h2, .err e⟩
  unfold Ja3
  rw [check_of hg hc hr (Zg hg hr), Jb, Qh (by simp), Ji, h1, Jb, Qd he, Jj]
 obtain ⟨i, hlow, hp, h3⟩ := split_val hg hc hr person ids name n hn hid hsub hrise htitle hfew h1
 have hrq := parted_right hr hp
 refine ⟨_, h3, h2.trans ?_, Out.of hg (by have := hrq.len; omega) fun p hp => ⟨(hrq.all p hp).likes, (hrq.all p hp).nots⟩⟩
 have hok := hr.all _ (List.getElem_mem hn)
 have hsz := Jcv hg hr _ (List.getElem_mem hn)
 have hi3 : ids.length ≤ 300 := by have := rise_len hrise hok.likes.rise hsub; omega
 have hin : ∀ k ∈ ids, l.any (has k) = true := fun k hk => hok.likes.all k (hsub k hk)
 have i1 : IdsOk l (less ps[n].Likes ids) := ids_less hok.likes
 have s1 := Jbe hg i1
 have hlen := hr.len
 have hle := hp.le
 have L8 := fix_seq (F := fun next8 s => W7 ps ids name (n : Int) ps ids ps[n].Nots next8 s) (fun k => (k : Int) + 1) i (J := Jcn ids name (n : Int) ps ((i : Int) + 1) ids ps[n].Nots)
  (fun next k hk => by
   have hk2 : k < ps.length := by omega
   have := rperson_at ps hr.rise hr.len k hk2
   rw [hlow k hk2 hk] at this
   simp only [W7]
   rw [this, Jb, Qd (by omega), Jj, Qi (by omega), Jb]
   rfl)
  (fun next => by
   simp only [W7]
   rw [rpersonAt_eq ps _ hr.len, idx_none fun p hpm => Qh fun e => ?_, Jb, Qh (by decide), Ji]
   obtain ⟨j, hj, rfl⟩ := List.getElem_of_mem hpm
   rcases Nat.lt_or_ge j i with h | h
   ·have := hp.below j hj h; omega
   ·have := hp.above j hj h; omega)
 refine Eq.trans ?_ (L8.trans ?_)
 ·rfl
 unfold Jcn
 have L7 := fix_seq (F := fun next7 s => U6 ids name (n : Int) ((i : Int) + 1) ids ps[n].Nots next7 s.1 s.2) (fun k => ((k : Int), upd ps n hn (lesss ps[n].Likes (ids.take k)) (joins ps[n].Nots (ids.take k)))) ids.length (J := Jcs name (n : Int) ((i : Int) + 1) ids ps[n].Nots (upd ps n hn (less ps[n].Likes ids) (Vp ps[n].Nots ids)))
  (fun next k hk => by
   have a1 := lesss_ids (ks := ids) hok.likes k
   have a2 := joins_ids hok.nots hin k
   have b1 := Jbe hg a1
   have b2 := Jbe hg a2
   simp only [U6]
   rw [Qd (by omega), Jj, J6 hk, Jb, at_upd hn, Jb, rwithout_eq _ _ (by simp only; omega), Jb, Jb, rwith_eq _ _ (by omega) a2.rise, Jb, Jb, set_upd hn, Jb, at_upd hn, Jb, set_upd hn, Jb, Qi (by omega), Jb, joins_snoc _ _ k hk, lesss_snoc _ _ k hk]
   rfl)
  (fun next => by
   simp only [U6]
   rw [Qh (by omega), Ji, List.take_length, joins_eq hok.nots.rise, lesss_eq hok.likes.rise])
 have e7 : ((((0 : Nat) : Int), upd ps n hn (lesss ps[n].Likes (ids.take 0)) (joins ps[n].Nots (ids.take 0))) : Int × List T_face_Person) = (0, ps) := by
  show ((0 : Int), upd ps n hn ps[n].Likes ps[n].Nots) = (0, ps)
  rw [upd_self]
 rw [e7] at L7
 rw [L7]
 unfold Jcs
 rw [at_upd hn, Jb]
 have L6 := fix_seq (F := fun next6 s => Jac name ((i : Int) + 1) ids (upd ps n hn (less ps[n].Likes ids) (Vp ps[n].Nots ids)) ⟨ps[n].Id, ps[n].Name, less ps[n].Likes ids, Vp ps[n].Nots ids⟩ next6 s.1 s.2.1 s.2.2) (fun k => (less ps[n].Likes ids, (k : Int), joins ps[n].Nots ((less ps[n].Likes ids).take k))) (less ps[n].Likes ids).length
  (J := Jcp name ((i : Int) + 1) ids (upd ps n hn (less ps[n].Likes ids) (Vp ps[n].Nots ids)) (Vp ps[n].Nots (less ps[n].Likes ids)))
  (fun next k hk => by
   have a2 := joins_ids hok.nots i1.all k
   have b2 := Jbe hg a2
   simp only [Jac]
   rw [Qd (by omega), Jj, J6 hk, Jb, rwith_eq _ _ (by omega) a2.rise, Jb, Qi (by omega), Jb, joins_snoc _ _ k hk]
   rfl)
  (fun next => by
   simp only [Jac]
   rw [Qh (by omega), Ji, List.take_length, joins_eq hok.nots.rise])
 refine Eq.trans ?_ (L6.trans ?_)
 ·rfl
 unfold Jcp
 have hlu : (upd ps n hn (less ps[n].Likes ids) (Vp ps[n].Nots ids)).length = ps.length := upd_len hn _ _
 have hq := hrq.rise
 have hsort := sort_ins (upd ps n hn (less ps[n].Likes ids) (Vp ps[n].Nots ids)) (part ps[n] ids name i) i hq
 have hperm : (upd ps n hn (less ps[n].Likes ids) (Vp ps[n].Nots ids) ++ [part ps[n] ids name i]).Perm (Wo (upd ps n hn (less ps[n].Likes ids) (Vp ps[n].Nots ids)) (i : Int) (part ps[n] ids name i)) := by
  rw [← hsort]
  exact (List.mergeSort_perm _ _).symm
 have hsp := gSortP_ok (l := upd ps n hn (less ps[n].Likes ids) (Vp ps[n].Nots ids) ++ [part ps[n] ids name i]) (key := fun x_ => x_.Id) ⟨by rw [List.length_append, hlu]; simp; omega, fun x hx => by
  have := (hrq.all x (hperm.mem_iff.1 hx)).idr
  exact ⟨by omega, by omega⟩, by
  rw [(hperm.map fun x => x.Id).nodup_iff]
  show (List.map _ _).Pairwise _
  rw [List.pairwise_map]
  exact List.Pairwise.imp (fun {x y} h => by omega) hq⟩
 rw [W9 (by rw [hlu]; simp; omega), Jb]
 show J0 (gSortP (upd ps n hn (less ps[n].Likes ids) (Vp ps[n].Nots ids) ++ [part ps[n] ids name i]) fun x_ => x_.Id) _ = _
 rw [hsp, Jb, hsort]
 rfl
end ops
end Go.M

/- FaceChanges in plain Lean: Sort is SortOf. Conditions: few elements. -/
namespace Go.M
open Go.Md Go.Pl
set_option linter.unusedVariables false
theorem join_one {a : List Int} {x : Int} (h : a.Pairwise fun x y => x < y) (hx : x ∉ a) : Vp a [x] = plus a x := rise_same (Jch _ _) (plus_rise h hx) fun k => by rw [join_mem, List.mem_singleton, plus_mem]
theorem fix_two {σ τ ρ π : Type} {F : (σ → Option ρ) → σ → Option ρ} {G : (τ → Option π) → τ → Option π} (R : σ → τ → Prop) (μ : σ → Nat) (P : ρ → π → Prop)
  (step : ∀ s t, R s t → (∃ r q, P r q ∧ (∀ next, F next s = some r) ∧ ∀ next, G next t = some q) ∨ ∃ s' t', R s' t' ∧ μ s' < μ s ∧ (∀ next, F next s = next s') ∧ ∀ next, G next t = next t') (s : σ) (t : τ) (h : R s t) : ∃ r q, Zx F s = some r ∧ Zx G t = some q ∧ P r q := by
 have key : ∀ n s t, R s t → μ s < n → ∃ r q, Zx F s = some r ∧ Zx G t = some q ∧ P r q := by
  intro n
  induction n with
  | zero => intro s t _ h; omega
  | succ n ih =>
   intro s t h hm
   rcases step s t h with ⟨r, q, h1, h2, h3⟩ | ⟨s', t', h1, h2, h3, h4⟩
   ·exact ⟨r, q, Q8 h2, Q8 h3, h1⟩
   ·rw [Yr s' h3, Yr t' h4]
    exact ih s' t' h1 (by omega)
 exact key (μ s + 1) s t h (by omega)
def toP (o : T_face_offer) : T_tintref2_pair := ⟨o.far_, o.id_, o.person_⟩
def toO (p : T_tintref2_pair) : T_face_offer := ⟨p.like_, p.person_, p.far_⟩
theorem cmpOkP : CmpOk Jb8 where
 tot x y := cmpOkO.tot (toO x) (toO y)
 flip x y := cmpOkO.flip (toO x) (toO y)
 trans x y z := cmpOkO.trans (toO x) (toO y) (toO z)
 anti x y h := by
  have := cmpOkO.anti (toO x) (toO y) h
  cases x; cases y
  unfold toO at this
  simp at this
  obtain ⟨h1, h2, h3⟩ := this
  subst h1 h2 h3; rfl
noncomputable def addQ (lim : Int) (id : Int) (s : List T_tintref2_pair) (m : T_face_Match) : List T_tintref2_pair := if m.Far ≤ lim then s ++ [⟨m.Far, id, m.Person⟩] else s
theorem addO_toP (lim id : Int) : ∀ (ms : List T_face_Match) (s : List T_face_offer), (ms.foldl (addO lim id) s).map toP = ms.foldl (addQ lim id) (s.map toP)
 | [], s => rfl
 | m :: ms, s => by
  rw [List.foldl_cons, addO_toP lim id ms, List.foldl_cons]
  congr 1
  unfold addO addQ
  split
  ·rw [List.map_append]; rfl
  ·rfl
theorem offers_toP (l : List T_face_Likeness) (ps : List T_face_Person) (lim : Int) (q : T_face_Likeness → Bool) : ∀ (fs : List T_face_Likeness) (s : List T_face_offer),
  ((fs.filter q).foldl (fun s x => (Jat l ps x.Id).foldl (addO lim x.Id) s) s).map toP = fs.foldl (fun s x => if q x = true then (Jat l ps x.Id).foldl (addQ lim x.Id) s else s) (s.map toP)
 | [], s => rfl
 | x :: fs, s => by
  rw [List.filter_cons, List.foldl_cons]
  by_cases h : q x = true
  ·rw [if_pos h, if_pos h, List.foldl_cons, offers_toP l ps lim q fs, addO_toP]
  ·rw [if_neg h, if_neg h, offers_toP l ps lim q fs]
theorem addQ_len (lim id : Int) : ∀ (ms : List T_face_Match) (s : List T_tintref2_pair), (ms.foldl (addQ lim id) s).length ≤ s.length + ms.length
 | [], s => by simp
 | m :: ms, s => by
  have ih := addQ_len lim id ms (addQ lim id s m)
  rw [List.foldl_cons]
  have hl : (addQ lim id s m).length ≤ s.length + 1 := by unfold addQ; split <;> simp
  rw [List.length_cons]; omega
theorem pairs_one (lim : Int) (x : Int) (next4 : Int × List T_tintref2_pair → Option (List T_face_Person)) (t : T_face_Likeness) (ms : List T_face_Match) (hm : ms.length ≤ 100) (s : List T_tintref2_pair) (hs : s.length ≤ 1000000) :
  Zx (fun next6 s => Ja1 lim x next4 t ms next6 s.1 s.2) (0, s) = Ja2 x next4 (ms.foldl (addQ lim t.Id) s) := by
 refine Ja6 (F := fun next6 s => Ja1 lim x next4 t ms next6 s.1 s.2) ms (addQ lim t.Id) (Ja2 x next4) (fun k s' => s'.length ≤ s.length + k) (fun next k s' hk hs' => ?_) (fun next s' _ => ?_) s (by omega)
 ·simp only [Ja1, R_SortOf_j7]
  rw [Qd (by omega), Jj, J6 hk, Jb]
  unfold addQ
  by_cases c : ms[k].Far ≤ lim
  ·rw [Qd c, Jj, W9 (by simp; omega), Jb, Qi (by omega), Jb, if_pos c]
   exact ⟨rfl, by simp; omega⟩
  ·rw [Qh c, Ji, Qi (by omega), Jb, if_neg c]
   exact ⟨rfl, by omega⟩
 ·simp only [Ja1]
  rw [Qh (by omega), Ji]
section ops
variable {l : List T_face_Likeness} (hg : Good l) (hc : V3 l = some 0) {ps : List T_face_Person} (hr : Right l ps)
include hg hr
theorem free_val : face_free l ps = some (l.filter fun x => !decide (∃ p ∈ ps, x.Id ∈ p.Likes)) := by
 have hl := hg.len
 unfold face_free W3
 rw [W9 (by simp; omega), Jb, Jb, List.nil_append, deleteL_eq l (face_free_1 ps) (fun x => decide (∃ p ∈ ps, x.Id ∈ p.Likes)) (by omega) (fun x _ => by
  unfold face_free_1
  obtain ⟨o, ho, ho2⟩ := owner_is hr.len (Zg hg hr) (fun p hp => (Jcd hr p hp).1) x.Id
  rw [ho, Jb]
  congr 1
  rw [Bool.eq_iff_iff, decide_eq_true_iff, decide_eq_true_iff, ho2]), Jb]
theorem sort_two (os : List T_face_offer) (hos : ∀ o ∈ os, OfferOk l ps o) (hlen : os.length ≤ 9223372036854775000) :
  ∃ r q, Zx (fun next2 s => Jbf l os next2 s.1 s.2) (0, ps) = some r ∧ Zx (fun next2 s => Jcg l (os.map toP) next2 s.1 s.2) (0, ps) = some q ∧ (r.2 = 0 ∧ q = r.1 ∧ Right l r.1) := by
 refine fix_two (F := fun next2 s => Jbf l os next2 s.1 s.2) (G := fun next2 s => Jcg l (os.map toP) next2 s.1 s.2) (fun (s : Int × List T_face_Person) t => t = s ∧ ∃ k : Nat, s.1 = k ∧ k ≤ os.length ∧ From l ps s.2) (fun s => os.length - s.1.toNat) (fun r q => r.2 = 0 ∧ q = r.1 ∧ Right l r.1) ?_ (0, ps) (0, ps) ⟨rfl, 0, rfl, Nat.zero_le _, hr, rfl, fun n h h' => ⟨rfl, rfl⟩⟩
 rintro ⟨_, out⟩ _ ⟨rfl, k, rfl, hk, hf⟩
 simp only [Jbf, Jc0, Jcg, R_SortOf_j3]
 have hlm : (os.map toP).length = os.length := List.length_map _
 rcases Nat.lt_or_ge k os.length with h | h
 ·obtain ⟨hlike, n, hn, hp, hnot⟩ := hos _ (List.getElem_mem h)
  simp only at hf
  have hg2 : Jk (os.map toP) (k : Int) = some (toP os[k]) := by
   rw [J6 (by rw [hlm]; exact h), List.getElem_map]
  have hn' : n < out.length := by rw [hf.len]; exact hn
  have hs := hf.same n hn hn'
  have hpa := personAt_eq out hf.right.rise hf.right.len n hn'
  have hpr := rperson_at out hf.right.rise hf.right.len n hn'
  rw [hs.1, ← hp] at hpa hpr
  have hpr : Zt out (toP os[k]).person_ = some (n : Int) := hpr
  obtain ⟨o, ho, ho1, ho2⟩ := owners hg hf.right os[k].id_
  have ho1 : Jbm out (toP os[k]).like_ = some o := ho1
  have hok := hf.right.all _ (List.getElem_mem hn')
  have hsz := Jcv hg hf.right _ (List.getElem_mem hn')
  obtain ⟨z, hz, z1, z2, z3⟩ := Jbr hg hlike
  have z3 : Qb l (toP os[k]).like_ = some (z : Int) := z3
  by_cases c1 : o < 0
  ·have hno : ∀ p ∈ out, os[k].id_ ∉ p.Likes := fun p hp hh => by have := ho2.2 ⟨p, hp, hh⟩; omega
   by_cases c2 : Zi l os[k].id_ ∈ Xw l out[n].Likes
   ·refine .inr ⟨((k : Int) + 1, out), _, ⟨rfl, k + 1, by simp, h, hf⟩, by simp only; omega, fun next => ?_, fun next => ?_⟩
    ·rw [Qd (by omega), Jj, J6 h, Jb, hpa, Jb, ho, Jb, Qd c1, Jj, J6 hn', Jb, Ja4 hg _ _ (by omega) hlike hok.likes.all, Jb, Qd c2, Bool.not_true, Ji, Qi (by omega), Jb]
    ·rw [Qd (by omega), Jj, hg2, Jb, hpr, Jb, ho1, Jb, Qd c1, Jj, J6 hn', Jb, z3, Jb, z2, Jb, Jca hg _ _ (by omega) hok.likes.all, Jb, Qd (show (like l os[k].id_).Photo ∈ Xw l out[n].Likes from c2), Bool.not_true, Ji, Qi (by omega), Jb]
   ·have hr2 := give_right hf.right hlike n hn' hno c2 (by rw [hs.2]; exact hnot)
    have hj := join_one hok.likes.rise (hno _ (List.getElem_mem hn'))
    refine .inr ⟨((k : Int) + 1, out.set n ⟨out[n].Id, out[n].Name, plus out[n].Likes os[k].id_, out[n].Nots⟩), _, ⟨rfl, k + 1, by simp, h, hr2, by simp only [List.length_set]; exact hf.len, fun i hi hi' => ?_⟩, by simp only; omega, fun next => ?_, fun next => ?_⟩
    ·rw [List.getElem_set]
     by_cases e : n = i
     ·subst e; simp only [if_pos]; exact hs
     ·rw [if_neg e]; exact hf.same i hi (by simpa using hi')
    ·rw [Qd (by omega), Jj, J6 h, Jb, hpa, Jb, ho, Jb, Qd c1, Jj, J6 hn', Jb, Ja4 hg _ _ (by omega) hlike hok.likes.all, Jb, Qh c2, Bool.not_false, Jj, Jb, with_plus _ _ (by omega) hok.likes.rise (hno _ (List.getElem_mem hn')), Jb, Jb,
      Un (by omega) (by rw [Int.toNat_natCast]; exact hn'), Jb, Int.toNat_natCast, Qi (by omega), Jb]
    ·rw [Qd (by omega), Jj, hg2, Jb, hpr, Jb, ho1, Jb, Qd c1, Jj, J6 hn', Jb, z3, Jb, z2, Jb, Jca hg _ _ (by omega) hok.likes.all, Jb, Qh (show ¬ (like l os[k].id_).Photo ∈ Xw l out[n].Likes from c2), Bool.not_false, Jj, Jb, rwith_eq _ _ (by omega) hok.likes.rise, Jb, Jb]
     show J0 (Q6 out (n : Int) ⟨out[n].Id, out[n].Name, Vp out[n].Likes [os[k].id_], out[n].Nots⟩) _ = _
     rw [hj, Un (by omega) (by rw [Int.toNat_natCast]; exact hn'), Jb, Int.toNat_natCast, Qi (by omega), Jb]
  ·refine .inr ⟨((k : Int) + 1, out), _, ⟨rfl, k + 1, by simp, h, hf⟩, by simp only; omega, fun next => ?_, fun next => ?_⟩
   ·rw [Qd (by omega), Jj, J6 h, Jb, hpa, Jb, ho, Jb, Qh c1, Ji, Qi (by omega), Jb]
   ·rw [Qd (by omega), Jj, hg2, Jb, hpr, Jb, ho1, Jb, Qh c1, Ji, Qi (by omega), Jb]
 ·have : k = os.length := by omega
  subst this
  refine .inl ⟨(out, 0), out, ⟨rfl, rfl, hf.right⟩, fun next => ?_, fun next => ?_⟩
  ·rw [Qh (by omega), Ji]
  ·rw [Qh (by omega), Ji]
include hc
theorem sort_same (lim : Int) : ∃ t f, face_Sort l ps lim = some t ∧ Ja9 lim = some f ∧ Out t ∧ t.2 = f ∧ (f = 0 → R_SortOf l ps lim = some t.1) := by
 unfold face_Sort
 rw [check_of hg hc hr (Zg hg hr), Jb, Qh (by simp), Ji, Wl, Jb]
 by_cases hlim : lim < 0 ∨ 774192 < lim
 ·rw [Qd hlim, Jj]
  refine ⟨([], 2), 2, rfl, ?_, .err 2, rfl, fun h => absurd h (by decide)⟩
  unfold Ja9 Law_unless
  rcases hlim with h | h
  ·rw [Qh (show ¬ 0 ≤ lim by omega)]; rfl
  ·rw [Qd (show 0 ≤ lim by omega), Jj, Qh (show ¬ lim ≤ 774192 by omega)]; rfl
 rw [Qh hlim, Ji, free_val hg hr, Jb]
 have hl300 := hg.len
 have hfids : ∀ p ∈ ps, IdsOk l p.Likes ∧ IdsOk l p.Nots := fun p hp => ⟨(hr.all p hp).likes, (hr.all p hp).nots⟩
 have hml : ∀ id, (Jat l ps id).length ≤ 100 := fun id => by
  unfold Jat
  rw [List.length_mergeSort, List.length_map]
  exact Nat.le_trans (List.length_filter_le _ _) hr.len
 have hall : ∀ x ∈ l, l.any (has x.Id) = true := fun x hx => has_mem.2 (List.mem_map.2 ⟨x, hx, rfl⟩)
 obtain ⟨q, hq⟩ : ∃ q, q = fun x : T_face_Likeness => !decide (∃ p ∈ ps, x.Id ∈ p.Likes) := ⟨_, rfl⟩
 rw [← hq]
 have hfl : (l.filter q).length ≤ 300 := Nat.le_trans (List.length_filter_le _ _) hl300
 have hfa : ∀ x ∈ l.filter q, l.any (has x.Id) = true := fun x hx => hall x (List.mem_filter.1 hx).1
 have e := Ja6 (F := fun next4 s => Jbq l ps lim (l.filter q) next4 s.1 s.2) (l.filter q) (fun s x => (Jat l ps x.Id).foldl (addO lim x.Id) s) (face_Sort_j1 l ps) (fun k s => s.length ≤ 100 * k ∧ ∀ o ∈ s, OfferOk l ps o) (fun next k s hk hs => ?_) (fun next s _ => ?_) [] ⟨by simp, by simp⟩
 ·have hinv := offers_all hml lim (l.filter q) [] hfa (by simp)
  have htoP := offers_toP l ps lim q l []
  rw [List.length_nil, Nat.zero_add] at hinv
  generalize (l.filter q).foldl (fun s x => (Jat l ps x.Id).foldl (addO lim x.Id) s) [] = os at hinv e htoP
  have e2 := Ja6 (F := fun next4 s => Jci l ps lim next4 s.1 s.2) l (fun s x => if q x = true then (Jat l ps x.Id).foldl (addQ lim x.Id) s else s) (R_SortOf_j1 l ps) (fun k s => s.length ≤ 100 * k) (fun next k s hk hs => ?_) (fun next s _ => ?_) [] (by simp)
  ·rw [show (List.map toP [] : List T_tintref2_pair) = [] from rfl] at htoP
   rw [← htoP] at e2
   obtain ⟨r, p, h1, h2, h3, h4, h5⟩ := sort_two hg hr (os.mergeSort (leC Wu)) (fun o ho => hinv.2 o ((List.mergeSort_perm _ _).mem_iff.1 ho)) (by rw [List.length_mergeSort]; omega)
   rw [h4] at h2
   refine ⟨r, 0, ?_, ?_, ?_, h3, fun _ => ?_⟩
   ·rw [e]
    unfold face_Sort_j1 gSortF
    rw [if_pos ⟨by omega, cmpOkO⟩, Jb, copy_eq ps hr.len (Zg hg hr) (Jcd hr), Jb]
    exact h1
   ·unfold Ja9 Law_unless
    rw [Qd (show 0 ≤ lim by omega), Jj, Qd (show lim ≤ 774192 by omega)]; rfl
   ·obtain ⟨r1, r2⟩ := r
    simp only at h3 h5
    subst h3
    exact Out.of hg (by have := h5.len; omega) fun p hp => ⟨(h5.all p hp).likes, (h5.all p hp).nots⟩
   ·unfold R_SortOf
    rw [e2]
    unfold R_SortOf_j1 gSortF
    rw [if_pos ⟨by rw [List.length_map]; omega, cmpOkP⟩, Jb, rfolk_eq ps hr.len (Zg hg hr), Jb, ← List.map_mergeSort (r := leC Wu) (s := leC Jb8) (f := toP) (l := os) fun a _ b _ => rfl]
    exact h2
  ·have hx := hall _ (List.getElem_mem hk)
   obtain ⟨o, o1, o2, o3⟩ := owners hg hr l[k].Id
   obtain ⟨r, m1, m2⟩ := matches_eq hg (folk_of hr) (Zg hg hr) l[k].Id hx
   rw [fmatches_eq hg hr.len hfids (Zg hg hr) _ hx] at m1
   have m1 := Option.some.inj m1
   subst m1
   have hq2 : q l[k] = !decide (0 ≤ o) := by
    rw [hq]
    show (!decide (∃ p ∈ ps, l[k].Id ∈ p.Likes)) = _
    congr 1
    rw [Bool.eq_iff_iff, decide_eq_true_iff, decide_eq_true_iff, o3]
   have hlenQ := addQ_len lim l[k].Id (Jat l ps l[k].Id) s
   have := hml l[k].Id
   simp only [Jci]
   rw [Qd (by omega), Jj, J6 hk, Jb, o2, Jb, hq2]
   by_cases c : 0 ≤ o
   ·rw [Qd c, Jj, if_neg (by simp)]
    unfold Ja2
    rw [Qi (by omega), Jb]
    exact ⟨rfl, by omega⟩
   ·rw [Qh c, Ji, if_pos (by simp), m2, Jb, pairs_one lim (k : Int) next l[k] _ (hml _) s (by omega)]
    unfold Ja2
    rw [Qi (by omega), Jb]
    exact ⟨rfl, by omega⟩
  ·simp only [Jci]
   rw [Qh (by omega), Ji]
 ·obtain ⟨hs1, hs2⟩ := hs
  have hfa' := hfa _ (List.getElem_mem hk)
  have h1 := offers_step hml lim (l.filter q)[k] hfa' s hs2
  refine ⟨?_, by omega, h1.2⟩
  simp only [Jbq]
  rw [Qd (by omega), Jj, J6 hk, Jb, fmatches_eq hg hr.len hfids (Zg hg hr) _ hfa', Jb, offers_one lim (k : Int) next (l.filter q)[k] _ (hml _) s (by omega)]
  unfold Jc1
  rw [Qi (by omega), Jb]
 ·simp only [Jbq]
  rw [Qh (by omega), Ji]
end ops
end Go.M

/- FaceChanges in plain Lean: the law. Conditions: few elements. -/
namespace Go.M
open Go.Md Go.Pl
set_option linter.unusedVariables false
theorem changes_bad (l : List T_face_Likeness) (ps : List T_face_Person) (a b k lim : Int) (ids : List Int) (name : List UInt8) {e : Int} (he : e ≠ 0) (h : Yn l ps = some e) : Vb l ps a b k lim ids name e = some true := by
 have h1 : Jbj l ps a k = some ([], e) := by
  unfold Jbj Wa
  rw [h, Jb, Qd he, Jj, Jb, Qd he, Jj]
 have h2 : face_Deny l ps a k = some ([], e) := by
  unfold face_Deny Wa
  rw [h, Jb, Qd he, Jj, Jb, Qd he, Jj]
 have h3 : face_Sort l ps lim = some ([], e) := by
  unfold face_Sort
  rw [h, Jb, Qd he, Jj]
 have h4 : face_Merge l ps a b = some ([], e) := by
  unfold face_Merge
  rw [h, Jb, Qd he, Jj]
 have h5 : Ja3 l ps a ids name = some ([], e) := by
  unfold Ja3
  rw [h, Jb, Qd he, Jj]
 have hf : Uf [] e [] e = some true := folk_self (.err e)
 unfold Vb
 rw [h1, Jb, h2, Jb, h3, Jb, h4, Jb, h5, Jb, Qd he, Jj, hf, Jb, Jj, Jb, Jj, Jb, Jj, Jb, Jj, Jb]
theorem changes_good {l : List T_face_Likeness} (hg : Good l) (hc : V3 l = some 0) {ps : List T_face_Person} (hr : Right l ps) (a b k lim : Int) (ids : List Int) (name : List UInt8) (hids : ids.length ≤ 17592186044000) : Vb l ps a b k lim ids name 0 = some true := by
 obtain ⟨t1, c1, d1, o1⟩ := confirms hg hc hr a k
 obtain ⟨t2, c2, d2, o2⟩ := denies hg hc hr a k
 obtain ⟨t3, f, c3, d3, o3, e3, s3⟩ := sort_same hg hc hr lim
 obtain ⟨t4, c4, d4, o4⟩ := merges hg hc hr a b
 obtain ⟨t5, c5, d5, o5⟩ := splits hg hc hr a ids name hids
 have j2 : W1 l ps a b ids name t1 t2 t3 t4 t5 t1 t2 f t3.1 = some true := by
  unfold W1
  rw [d4, Jb, d5, Jb, folk_self o1, Jb, Jj, folk_self o2, Jb, Jj, ← e3, folk_self o3, Jb, Jj, folk_self o4, Jb, Jj, folk_self o5, Jb]
 unfold Vb
 rw [c1, Jb, c2, Jb, c3, Jb, c4, Jb, c5, Jb, Qh (by simp), Ji, d1, Jb, d2, Jb, d3, Jb]
 by_cases h0 : f = 0
 ·rw [Qd h0, Jj, s3 h0, Jb]
  exact j2
 ·rw [Qh h0, Ji, ← o3.none (by rw [e3]; exact h0)]
  exact j2
theorem face_changes (l : List T_face_Likeness) (ps : List T_face_Person) (a b k lim : Int) (ids : List Int) (name : List UInt8) (hl : l.length ≤ 9223372036854775000) (hsz : ∀ p ∈ ps, PSz p) (hn : ps.length ≤ 9223372036854775000) (hids : ids.length ≤ 17592186044000) : Jb6 l ps a b k lim ids name = some true := by
 unfold Jb6
 rw [likes_eq l (by omega), Jb]
 have hC := check_eq l (by omega)
 generalize hfe : (if 300 < l.length then 4 else Jai (likeF l) l.length 0) = fe at *
 by_cases h0 : fe = 0
 ·have hg : Good l := by
   by_cases h3 : 300 < l.length
   ·rw [if_pos h3] at hfe; omega
   ·rw [if_neg h3] at hfe; exact good_of l (by omega) (hfe.trans h0)
  rw [h0] at hC
  obtain ⟨e, he1, he2, he3⟩ := people_eq hg ps hsz hn
  obtain ⟨e', he', her⟩ := check_right hg hC ps hsz hn
  have hee : e' = e := by
   have h1 : Yn l ps = some e := by
    unfold Yn
    rw [hC, Jb, Qh (by simp), Ji]
    exact he3
   rw [he'] at h1
   exact Option.some.inj h1
  subst hee
  rw [Qd h0, Jj, he2, Jb]
  by_cases h1 : e' = 0
  ·have hr := her.1 h1
   rw [h1]
   exact changes_good hg hC hr a b k lim ids name hids
  ·exact changes_bad l ps a b k lim ids name h1 he'
 ·rw [Qh h0, Ji]
  refine changes_bad l ps a b k lim ids name h0 ?_
  unfold Yn
  rw [hC, Jb, Qd h0, Jj]
theorem faceChangesS (l : List T_face_Likeness) (ps : List T_face_Person) (a b k lim : Int) (ids : List Int) (name : List UInt8) {φ ψ1 ψ2 ψ3 ψ4 ψ5 ψ6 : Prop} {α β γ δ : T_face_Person → Prop} (h1 : (l.length ≤ 9223372036854775807 ∧ l.length * 112 ≤ 140737488351232) ∧ φ)
  (h2 : (ps.length ≤ 9223372036854775807 ∧ ps.length * 72 ≤ 140737488351232) ∧ ∀ a ∈ ps, α a ∧ β a ∧ ((a.Likes.length ≤ 9223372036854775807 ∧ a.Likes.length * 8 ≤ 140737488351232) ∧ γ a) ∧ ((a.Nots.length ≤ 9223372036854775807 ∧ a.Nots.length * 8 ≤ 140737488351232) ∧ δ a)) (_ : ψ1) (_ : ψ2) (_ : ψ3) (_ : ψ4)
  (h3 : (ids.length ≤ 9223372036854775807 ∧ ids.length * 8 ≤ 140737488351232) ∧ ψ5) (_ : ψ6) : Jb6 l ps a b k lim ids name = some true :=
 face_changes l ps a b k lim ids name (by omega) (fun p hp => by have := h2.2 p hp; exact ⟨by omega, by omega⟩) (by omega) (by omega)
end Go.M
