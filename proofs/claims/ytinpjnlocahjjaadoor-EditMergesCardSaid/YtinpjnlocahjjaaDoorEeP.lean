/- Plain lemmas about steps of recipes: what is wrong with one, what size it makes, where a pixel comes from. Conditions: those that each lemma names. -/
import Derived.Test.YtinpjnlocahjjaaDoorPl2
import Derived.Test.YtinpjnlocahjjaaDoorMEt
namespace Go.M
open Go.Md Go.Pl

/-! ### the fault of a step -/

/-- The first number that is not 0. -/
def fstE : List Int → Int
  | [] => 0
  | e :: r => if e = 0 then fstE r else e

theorem fstE_zero : ∀ {l : List Int}, fstE l = 0 → ∀ e ∈ l, e = 0
  | [], _, _, h => by cases h
  | e :: r, h, x, hx => by
    simp only [fstE] at h
    split at h
    · rename_i h0
      rcases List.mem_cons.1 hx with rfl | hx
      · exact h0
      · exact fstE_zero h x hx
    · rename_i h0; exact absurd h h0

theorem fstE_all : ∀ {l : List Int}, (∀ e ∈ l, e = 0) → fstE l = 0
  | [], _ => rfl
  | e :: r, h => by
    simp only [fstE]
    rw [if_pos (h e (by simp)), fstE_all fun x hx => h x (by simp [hx])]

/-- A loop over a list that stops at the first error. -/
theorem scanL {α : Type} {F : (Int → Option Int) → Int → Option Int} (xs : List α) (c : α → Int) (step : ∀ (next : Int → Option Int) (k : Nat) (hk : k < xs.length), F next (k : Int) = if c xs[k] = 0 then next ((k : Int) + 1) else some (c xs[k])) (last : ∀ next, F next (xs.length : Int) = some 0) : fix F 0 = some (fstE (xs.map c)) := by
  have h := up (F := F) xs.length (fun k => some (fstE ((xs.drop k).map c))) (by
    intro next k hk ih
    by_cases h : k < xs.length
    · rw [step next k h, List.drop_eq_getElem_cons h]
      simp only [List.map_cons, fstE]
      split
      · rw [ih h]
      · rfl
    · have : k = xs.length := by omega
      subst this
      rw [last, List.drop_of_length_le (Nat.le_refl _)]; rfl)
  simpa using h

/-- Whether a number of a list lies out of its bounds. -/
def outB (t : Nat → Nat → Int) : List Int → Nat → Bool
  | [], _ => false
  | x :: r, k => decide (x < t k 0) || decide (t k 1 < x) || outB t r (k + 1)

theorem outside_edit (a b c : Int) : edit_outside a b c = some (decide (a < b) || decide (c < a)) := by
  unfold edit_outside
  rw [cnd_if]
  by_cases h : a < b
  · rw [if_pos h, decide_eq_true h]; rfl
  · rw [if_neg h, decide_eq_false h]; rfl

theorem CheckStep_l4_eq (a0 : T_edit_Step) (t17 : List UInt8 × Int) (t21 l : List Int) (hl : l.length ≤ 100) :
    fix (fun next4 s => edit_CheckStep_l4 a0 t17 t21 l next4 s) 0 = if l.any (fun x => decide (x ≠ 0)) then some 1 else edit_CheckStep_j1 a0 t17 t21 := by
  have h := up (F := fun next4 s => edit_CheckStep_l4 a0 t17 t21 l next4 s) l.length (fun k => if (l.drop k).any (fun x => decide (x ≠ 0)) then some 1 else edit_CheckStep_j1 a0 t17 t21) (by
    intro next k hk ih
    show edit_CheckStep_l4 a0 t17 t21 l next k = _
    unfold edit_CheckStep_l4
    rw [cnd_if]
    by_cases h : k < l.length
    · rw [if_pos (by omega), gAt_nat h, bnd_pure, cnd_if, gI_ok (by omega), bnd_pure, ih h, List.drop_eq_getElem_cons h]
      rw [List.any_cons]
      by_cases h0 : l[k] = 0
      · rw [if_neg (by simpa using h0), decide_eq_false (by simpa using h0), Bool.false_or]
      · rw [if_pos h0, decide_eq_true h0, Bool.true_or, if_pos rfl]
    · have : k = l.length := by omega
      subst this
      rw [if_neg (by omega), List.drop_of_length_le (Nat.le_refl _)]; rfl)
  simpa using h

theorem CheckStep_l3_eq (a0 : T_edit_Step) (t35 : Nat → Nat → Int) (l : List Int) (hl : l.length ≤ 4) :
    fix (fun next3 s => edit_CheckStep_l3 a0 t35 l next3 s) 0 = if outB t35 l 0 then some 2 else edit_CheckStep_j2 a0 := by
  have h := up (F := fun next3 s => edit_CheckStep_l3 a0 t35 l next3 s) l.length (fun k => if outB t35 (l.drop k) k then some 2 else edit_CheckStep_j2 a0) (by
    intro next k hk ih
    show edit_CheckStep_l3 a0 t35 l next k = _
    unfold edit_CheckStep_l3
    rw [cnd_if]
    by_cases h : k < l.length
    · rw [if_pos (by omega), gAt_nat h, bnd_pure, gIx_nat (by omega), bnd_pure, bnd_pure, outside_edit, bnd_pure, gI_ok (by omega), bnd_pure, ih h, List.drop_eq_getElem_cons h]
      rw [show outB t35 (l[k] :: l.drop (k + 1)) k = (decide (l[k] < t35 k 0) || decide (t35 k 1 < l[k]) || outB t35 (l.drop (k + 1)) (k + 1)) from rfl]
      by_cases hq : l[k] < t35 k 0 ∨ t35 k 1 < l[k]
      · have : (decide (l[k] < t35 k 0) || decide (t35 k 1 < l[k])) = true := by simpa using hq
        rw [this, cnd_true, Bool.true_or, if_pos rfl]
      · have : (decide (l[k] < t35 k 0) || decide (t35 k 1 < l[k])) = false := by simpa using hq
        rw [this, cnd_false, Bool.false_or]
    · have : k = l.length := by omega
      subst this
      rw [if_neg (by omega), List.drop_of_length_le (Nat.le_refl _)]; rfl)
  simpa using h

/-- How many numbers a kind uses, and their bounds. -/
def usedS (k : Int) : Nat := if k = 1 then 1 else if k = 2 then 4 else if k = 3 then 2 else if k = 4 then 1 else if k = 5 then 1 else if k = 6 then 2 else if k = 7 then 1 else if k = 8 then 1 else 0
def badS (s : T_edit_Step) : Prop :=
  (s.Kind = 1 ∧ (s.A < 1 ∨ 8 < s.A)) ∨ (s.Kind = 2 ∧ (s.A < 0 ∨ 63 < s.A ∨ s.B < 0 ∨ 63 < s.B ∨ s.C < 1 ∨ 64 < s.C ∨ s.D < 1 ∨ 64 < s.D)) ∨ (s.Kind = 3 ∧ (s.A < 1 ∨ 64 < s.A ∨ s.B < 1 ∨ 64 < s.B)) ∨
  (s.Kind = 4 ∧ (s.A < -255 ∨ 255 < s.A)) ∨ (s.Kind = 5 ∧ (s.A < 0 ∨ 400 < s.A)) ∨ (s.Kind = 6 ∧ (s.A < 0 ∨ 255 < s.A ∨ s.B < 0 ∨ 255 < s.B)) ∨ (s.Kind = 7 ∧ (s.A < -100 ∨ 100 < s.A)) ∨ (s.Kind = 8 ∧ (s.A < 0 ∨ 100 < s.A))
instance (s : T_edit_Step) : Decidable (badS s) := by unfold badS; infer_instance
def formS (s : T_edit_Step) : Prop := (usedS s.Kind ≤ 0 ∧ s.A ≠ 0) ∨ (usedS s.Kind ≤ 1 ∧ s.B ≠ 0) ∨ (usedS s.Kind ≤ 2 ∧ s.C ≠ 0) ∨ (usedS s.Kind ≤ 3 ∧ s.D ≠ 0)
instance (s : T_edit_Step) : Decidable (formS s) := by unfold formS; infer_instance

/-- What is wrong with a step. -/
def stepE (s : T_edit_Step) : Int :=
  if s.Kind < 1 ∨ 9 < s.Kind then 10 else if formS s then 1 else if badS s then 2 else if s.Kind = 6 ∧ s.B ≤ s.A then 5 else 0

theorem kinds {k : Int} (h : ¬ (k < 1 ∨ 9 < k)) : k = 1 ∨ k = 2 ∨ k = 3 ∨ k = 4 ∨ k = 5 ∨ k = 6 ∨ k = 7 ∨ k = 8 ∨ k = 9 := by omega

theorem CheckStep_j2_eq (s : T_edit_Step) : edit_CheckStep_j2 s = some (if s.Kind = 6 ∧ s.B ≤ s.A then 5 else 0) := by
  unfold edit_CheckStep_j2
  rw [cnd_if, cnd_if]
  by_cases h : s.Kind = 6 <;> by_cases h' : s.B ≤ s.A <;> simp [h, h']

theorem cut4 (a b c d : Int) (n : Nat) (h : n ≤ 4) : gCut [a, b, c, d] (n : Int) (([a, b, c, d] : List Int).length : Int) = some ([a, b, c, d].drop n) := by
  rw [gCut_from (by simp; omega), Int.toNat_natCast]
theorem cut4t (a b c d : Int) (n : Nat) (h : n ≤ 4) : gCut [a, b, c, d] 0 (n : Int) = some ([a, b, c, d].take n) := by
  rw [gCut_to (by simp; omega), Int.toNat_natCast]

theorem CheckStep_eq (s : T_edit_Step) : edit_CheckStep s = some (stepE s) := by
  unfold edit_CheckStep stepE
  rw [outside_edit, bnd_pure]
  by_cases h : s.Kind < 1 ∨ 9 < s.Kind
  · have : (decide (s.Kind < 1) || decide (9 < s.Kind)) = true := by simpa using h
    rw [this, cnd_true, if_pos h]
  · have : (decide (s.Kind < 1) || decide (9 < s.Kind)) = false := by simpa using h
    rw [this, cnd_false, if_neg h]
    have key : ∀ (w : List UInt8) (t : Nat → Nat → Int), edit_word s.Kind = some (w, (usedS s.Kind : Int)) → edit_bounds s.Kind = some t → usedS s.Kind ≤ 4 → (formS s ↔ ([s.A, s.B, s.C, s.D].drop (usedS s.Kind)).any (fun x => decide (x ≠ 0)) = true) → (badS s ↔ outB t ([s.A, s.B, s.C, s.D].take (usedS s.Kind)) 0 = true) →
        (bnd (edit_word s.Kind) fun t17 => bnd (edit_Step_numbers s) fun t21 => bnd (gCut t21 t17.2 t21.length) fun t24 => fix (fun next4 q => edit_CheckStep_l4 s t17 t21 t24 next4 q) 0) = some (if formS s then 1 else if badS s then 2 else if s.Kind = 6 ∧ s.B ≤ s.A then 5 else 0) := by
      intro w t hw ht hu hf hb
      rw [hw, bnd_pure]
      unfold edit_Step_numbers
      rw [bnd_pure]
      simp only
      rw [cut4 _ _ _ _ _ hu, bnd_pure, CheckStep_l4_eq _ _ _ _ (by simp; omega)]
      by_cases h1 : formS s
      · rw [if_pos (hf.1 h1), if_pos h1]
      · rw [if_neg (fun h => h1 (hf.2 h)), if_neg h1]
        unfold edit_CheckStep_j1
        rw [ht, bnd_pure]
        simp only
        rw [cut4t _ _ _ _ _ hu, bnd_pure, CheckStep_l3_eq _ _ _ (by simp; omega)]
        by_cases h2 : badS s
        · rw [if_pos (hb.1 h2), if_pos h2]
        · rw [if_neg (fun h => h2 (hb.2 h)), if_neg h2, CheckStep_j2_eq]
    rcases kinds h with h | h | h | h | h | h | h | h | h
    all_goals
      refine key _ _ (by rw [h]; rfl) (by rw [h]; rfl) (by rw [h]; decide) ?_ ?_
    all_goals simp [formS, badS, usedS, h, outB, ofL, or_assoc]

/-- What is wrong with a recipe. -/
def stepsE (l : List T_edit_Step) : Int := if 50 < l.length then 4 else fstE (l.map stepE)

theorem Check_eq (l : List T_edit_Step) : edit_Check l = some (stepsE l) := by
  unfold edit_Check stepsE
  rw [cnd_if]
  by_cases h : 50 < l.length
  · rw [if_pos (by omega), if_pos h]
  · rw [if_neg (by omega), if_neg h]
    refine scanL l stepE (fun next k hk => ?_) fun next => ?_
    · show edit_Check_l1 l next k = _
      unfold edit_Check_l1
      rw [cnd_if, if_pos (by omega), gAt_nat hk, bnd_pure, CheckStep_eq, bnd_pure, cnd_if, gI_ok (by omega), bnd_pure]
      by_cases h0 : stepE l[k] = 0
      · rw [if_neg (by simpa using h0), if_pos h0]
      · rw [if_pos h0, if_neg h0]
    · show edit_Check_l1 l next l.length = _
      unfold edit_Check_l1
      rw [cnd_if, if_neg (by omega)]

theorem stepsE_ok {l : List T_edit_Step} (h : stepsE l = 0) : l.length ≤ 50 ∧ ∀ s ∈ l, stepE s = 0 := by
  unfold stepsE at h
  split at h
  · cases h
  · exact ⟨by omega, fun s hs => fstE_zero h _ (List.mem_map.2 ⟨s, hs, rfl⟩)⟩

/-- A right step: its kind, and its numbers' bounds. -/
theorem stepE_ok {s : T_edit_Step} (h : stepE s = 0) : (1 ≤ s.Kind ∧ s.Kind ≤ 9) ∧ ¬ badS s ∧ ¬ formS s ∧ (s.Kind = 6 → s.A < s.B) := by
  unfold stepE at h
  split at h
  · cases h
  · split at h
    · cases h
    · split at h
      · cases h
      · split at h
        · cases h
        · rename_i h1 h2 h3 h4
          exact ⟨by omega, h3, h2, fun h5 => by omega⟩

theorem stepE_nums {s : T_edit_Step} (h : stepE s = 0) : -255 ≤ s.A ∧ s.A ≤ 400 ∧ 0 ≤ s.B ∧ s.B ≤ 255 ∧ 0 ≤ s.C ∧ s.C ≤ 64 ∧ 0 ≤ s.D ∧ s.D ≤ 64 := by
  obtain ⟨h1, h2, h3, h4⟩ := stepE_ok h
  unfold badS at h2
  unfold formS usedS at h3
  rcases kinds (k := s.Kind) (by omega) with h | h | h | h | h | h | h | h | h <;> simp [h] at h2 h3 <;> omega

end Go.M
