/- Plain lemmas about steps of recipes: what is wrong with one, what size it makes, where a pixel comes from. Conditions: those that each lemma names. -/
import Derived.Test.YtllnhnnpmmnomaaPl2
import Derived.Test.YtllnhnnpmmnomaaMTd
namespace Go.M
open Go.Md Go.Pl

/-! ### the fault of a step -/

/-- The first number that is not 0. -/
def fstE : List Int → Int
  | [] => 0
  | e :: r => if e = 0 then fstE r else e

theorem fstE_zero : ∀ {l : List Int}, fstE l = 0 → ∀ e ∈ l, e = 0
  | [], _, _, h => by cases h
  | e :: r, h, x, hx => by
    simp only [fstE] at h
    split at h
    · rename_i h0
      rcases List.mem_cons.1 hx with rfl | hx
      · exact h0
      · exact fstE_zero h x hx
    · rename_i h0; exact absurd h h0

theorem fstE_all : ∀ {l : List Int}, (∀ e ∈ l, e = 0) → fstE l = 0
  | [], _ => rfl
  | e :: r, h => by
    simp only [fstE]
    rw [if_pos (h e (by simp)), fstE_all fun x hx => h x (by simp [hx])]

/-- A loop over a list that stops at the first error. -/
theorem scanL {α : Type} {F : (Int → Option Int) → Int → Option Int} (xs : List α) (c : α → Int) (step : ∀ (next : Int → Option Int) (k : Nat) (hk : k < xs.length), F next (k : Int) = if c xs[k] = 0 then next ((k : Int) + 1) else some (c xs[k])) (last : ∀ next, F next (xs.length : Int) = some 0) : fix F 0 = some (fstE (xs.map c)) := by
  have h := up (F := F) xs.length (fun k => some (fstE ((xs.drop k).map c))) (by
    intro next k hk ih
    by_cases h : k < xs.length
    · rw [step next k h, List.drop_eq_getElem_cons h]
      simp only [List.map_cons, fstE]
      split
      · rw [ih h]
      · rfl
    · have : k = xs.length := by omega
      subst this
      rw [last, List.drop_of_length_le (Nat.le_refl _)]; rfl)
  simpa using h

/-- Whether a number of a list lies out of its bounds. -/
def outB (t : Nat → Nat → Int) : List Int → Nat → Bool
  | [], _ => false
  | x :: r, k => decide (x < t k 0) || decide (t k 1 < x) || outB t r (k + 1)

theorem outside_edit (a b c : Int) : edit_outside a b c = some (decide (a < b) || decide (c < a)) := by
  unfold edit_outside
  rw [cnd_if]
  by_cases h : a < b
  · rw [if_pos h, decide_eq_true h]; rfl
  · rw [if_neg h, decide_eq_false h]; rfl

theorem CheckStep_l4_eq (a0 : T_edit_Step) (t17 : List UInt8 × Int) (t21 l : List Int) (hl : l.length ≤ 100) :
    fix (fun next4 s => edit_CheckStep_l4 a0 t17 t21 l next4 s) 0 = if l.any (fun x => decide (x ≠ 0)) then some 1 else edit_CheckStep_j1 a0 t17 t21 := by
  have h := up (F := fun next4 s => edit_CheckStep_l4 a0 t17 t21 l next4 s) l.length (fun k => if (l.drop k).any (fun x => decide (x ≠ 0)) then some 1 else edit_CheckStep_j1 a0 t17 t21) (by
    intro next k hk ih
    show edit_CheckStep_l4 a0 t17 t21 l next k = _
    unfold edit_CheckStep_l4
    rw [cnd_if]
    by_cases h : k < l.length
    · rw [if_pos (by omega), gAt_nat h, bnd_pure, cnd_if, gI_ok (by omega), bnd_pure, ih h, List.drop_eq_getElem_cons h]
      rw [List.any_cons]
      by_cases h0 : l[k] = 0
      · rw [if_neg (by simpa using h0), decide_eq_false (by simpa using h0), Bool.false_or]
      · rw [if_pos h0, decide_eq_true h0, Bool.true_or, if_pos rfl]
    · have : k = l.length := by omega
      subst this
      rw [if_neg (by omega), List.drop_of_length_le (Nat.le_refl _)]; rfl)
  simpa using h

theorem CheckStep_l3_eq (a0 : T_edit_Step) (t35 : Nat → Nat → Int) (l : List Int) (hl : l.length ≤ 4) :
    fix (fun next3 s => edit_CheckStep_l3 a0 t35 l next3 s) 0 = if outB t35 l 0 then some 2 else edit_CheckStep_j2 a0 := by
  have h := up (F := fun next3 s => edit_CheckStep_l3 a0 t35 l next3 s) l.length (fun k => if outB t35 (l.drop k) k then some 2 else edit_CheckStep_j2 a0) (by
    intro next k hk ih
    show edit_CheckStep_l3 a0 t35 l next k = _
    unfold edit_CheckStep_l3
    rw [cnd_if]
    by_cases h : k < l.length
    · rw [if_pos (by omega), gAt_nat h, bnd_pure, gIx_nat (by omega), bnd_pure, bnd_pure, outside_edit, bnd_pure, gI_ok (by omega), bnd_pure, ih h, List.drop_eq_getElem_cons h]
      rw [show outB t35 (l[k] :: l.drop (k + 1)) k = (decide (l[k] < t35 k 0) || decide (t35 k 1 < l[k]) || outB t35 (l.drop (k + 1)) (k + 1)) from rfl]
      by_cases hq : l[k] < t35 k 0 ∨ t35 k 1 < l[k]
      · have : (decide (l[k] < t35 k 0) || decide (t35 k 1 < l[k])) = true := by simpa using hq
        rw [this, cnd_true, Bool.true_or, if_pos rfl]
      · have : (decide (l[k] < t35 k 0) || decide (t35 k 1 < l[k])) = false := by simpa using hq
        rw [this, cnd_false, Bool.false_or]
    · have : k = l.length := by omega
      subst this
      rw [if_neg (by omega), List.drop_of_length_le (Nat.le_refl _)]; rfl)
  simpa using h

/-- How many numbers a kind uses, and their bounds. -/
def usedS (k : Int) : Nat := if k = 1 then 1 else if k = 2 then 4 else if k = 3 then 2 else if k = 4 then 1 else if k = 5 then 1 else if k = 6 then 2 else if k = 7 then 1 else if k = 8 then 1 else 0
def badS (s : T_edit_Step) : Prop :=
  (s.Kind = 1 ∧ (s.A < 1 ∨ 8 < s.A)) ∨ (s.Kind = 2 ∧ (s.A < 0 ∨ 63 < s.A ∨ s.B < 0 ∨ 63 < s.B ∨ s.C < 1 ∨ 64 < s.C ∨ s.D < 1 ∨ 64 < s.D)) ∨ (s.Kind = 3 ∧ (s.A < 1 ∨ 64 < s.A ∨ s.B < 1 ∨ 64 < s.B)) ∨
  (s.Kind = 4 ∧ (s.A < -255 ∨ 255 < s.A)) ∨ (s.Kind = 5 ∧ (s.A < 0 ∨ 400 < s.A)) ∨ (s.Kind = 6 ∧ (s.A < 0 ∨ 255 < s.A ∨ s.B < 0 ∨ 255 < s.B)) ∨ (s.Kind = 7 ∧ (s.A < -100 ∨ 100 < s.A)) ∨ (s.Kind = 8 ∧ (s.A < 0 ∨ 100 < s.A))
instance (s : T_edit_Step) : Decidable (badS s) := by unfold badS; infer_instance
def formS (s : T_edit_Step) : Prop := (usedS s.Kind ≤ 0 ∧ s.A ≠ 0) ∨ (usedS s.Kind ≤ 1 ∧ s.B ≠ 0) ∨ (usedS s.Kind ≤ 2 ∧ s.C ≠ 0) ∨ (usedS s.Kind ≤ 3 ∧ s.D ≠ 0)
instance (s : T_edit_Step) : Decidable (formS s) := by unfold formS; infer_instance

/-- What is wrong with a step. -/
def stepE (s : T_edit_Step) : Int :=
  if s.Kind < 1 ∨ 9 < s.Kind then 10 else if formS s then 1 else if badS s then 2 else if s.Kind = 6 ∧ s.B ≤ s.A then 5 else 0

theorem kinds {k : Int} (h : ¬ (k < 1 ∨ 9 < k)) : k = 1 ∨ k = 2 ∨ k = 3 ∨ k = 4 ∨ k = 5 ∨ k = 6 ∨ k = 7 ∨ k = 8 ∨ k = 9 := by omega

theorem CheckStep_j2_eq (s : T_edit_Step) : edit_CheckStep_j2 s = some (if s.Kind = 6 ∧ s.B ≤ s.A then 5 else 0) := by
  unfold edit_CheckStep_j2
  rw [cnd_if, cnd_if]
  by_cases h : s.Kind = 6 <;> by_cases h' : s.B ≤ s.A <;> simp [h, h']

theorem cut4 (a b c d : Int) (n : Nat) (h : n ≤ 4) : gCut [a, b, c, d] (n : Int) (([a, b, c, d] : List Int).length : Int) = some ([a, b, c, d].drop n) := by
  rw [gCut_from (by simp; omega), Int.toNat_natCast]
theorem cut4t (a b c d : Int) (n : Nat) (h : n ≤ 4) : gCut [a, b, c, d] 0 (n : Int) = some ([a, b, c, d].take n) := by
  rw [gCut_to (by simp; omega), Int.toNat_natCast]

theorem CheckStep_eq (s : T_edit_Step) : edit_CheckStep s = some (stepE s) := by
  unfold edit_CheckStep stepE
  rw [outside_edit, bnd_pure]
  by_cases h : s.Kind < 1 ∨ 9 < s.Kind
  · have : (decide (s.Kind < 1) || decide (9 < s.Kind)) = true := by simpa using h
    rw [this, cnd_true, if_pos h]
  · have : (decide (s.Kind < 1) || decide (9 < s.Kind)) = false := by simpa using h
    rw [this, cnd_false, if_neg h]
    have key : ∀ (w : List UInt8) (t : Nat → Nat → Int), edit_word s.Kind = some (w, (usedS s.Kind : Int)) → edit_bounds s.Kind = some t → usedS s.Kind ≤ 4 → (formS s ↔ ([s.A, s.B, s.C, s.D].drop (usedS s.Kind)).any (fun x => decide (x ≠ 0)) = true) → (badS s ↔ outB t ([s.A, s.B, s.C, s.D].take (usedS s.Kind)) 0 = true) →
        (bnd (edit_word s.Kind) fun t17 => bnd (edit_Step_numbers s) fun t21 => bnd (gCut t21 t17.2 t21.length) fun t24 => fix (fun next4 q => edit_CheckStep_l4 s t17 t21 t24 next4 q) 0) = some (if formS s then 1 else if badS s then 2 else if s.Kind = 6 ∧ s.B ≤ s.A then 5 else 0) := by
      intro w t hw ht hu hf hb
      rw [hw, bnd_pure]
      unfold edit_Step_numbers
      rw [bnd_pure]
      simp only
      rw [cut4 _ _ _ _ _ hu, bnd_pure, CheckStep_l4_eq _ _ _ _ (by simp; omega)]
      by_cases h1 : formS s
      · rw [if_pos (hf.1 h1), if_pos h1]
      · rw [if_neg (fun h => h1 (hf.2 h)), if_neg h1]
        unfold edit_CheckStep_j1
        rw [ht, bnd_pure]
        simp only
        rw [cut4t _ _ _ _ _ hu, bnd_pure, CheckStep_l3_eq _ _ _ (by simp; omega)]
        by_cases h2 : badS s
        · rw [if_pos (hb.1 h2), if_pos h2]
        · rw [if_neg (fun h => h2 (hb.2 h)), if_neg h2, CheckStep_j2_eq]
    rcases kinds h with h | h | h | h | h | h | h | h | h
    all_goals
      refine key _ _ (by rw [h]; rfl) (by rw [h]; rfl) (by rw [h]; decide) ?_ ?_
    all_goals simp [formS, badS, usedS, h, outB, ofL, or_assoc]

theorem R_StepFault_l3_eq (s : T_edit_Step) (hk : ¬ (s.Kind < 1 ∨ 9 < s.Kind)) :
    fix (fun next3 q => R_StepFault_l3 s next3 q) 0 = if formS s then some 1 else R_StepFault_j1 s := by
  have hu : R_numbersUsed s.Kind = some (usedS s.Kind : Int) := by
    rcases kinds hk with h | h | h | h | h | h | h | h | h <;> rw [h] <;> rfl
  have st : ∀ (next : Int → Option Int) (k : Nat) (x : Int), k < 4 → gAt [s.A, s.B, s.C, s.D] (k : Int) = some x → R_StepFault_l3 s next (k : Int) = if usedS s.Kind ≤ k ∧ x ≠ 0 then some 1 else next ((k : Int) + 1) := by
    intro next k x hk hx
    unfold R_StepFault_l3 R_StepFault_j4
    rw [cnd_if, if_pos (by omega), hx, bnd_pure, hu, bnd_pure, cnd_if, cnd_if, gI_ok (by omega), bnd_pure]
    by_cases h1 : usedS s.Kind ≤ k
    · rw [if_pos (by omega)]
      by_cases h2 : x = 0 <;> simp [h1, h2]
    · rw [if_neg (by omega), if_neg (fun h => h1 h.1)]
  have h4 : ∀ next : Int → Option Int, R_StepFault_l3 s next 4 = R_StepFault_j1 s := by
    intro next; unfold R_StepFault_l3; rw [cnd_if, if_neg (by decide)]
  have g : ∀ (k : Nat) (x : Int) (o : Option Int), k < 4 → gAt [s.A, s.B, s.C, s.D] (k : Int) = some x → fix (fun next3 q => R_StepFault_l3 s next3 q) ((k : Int) + 1) = o → fix (fun next3 q => R_StepFault_l3 s next3 q) (k : Int) = if usedS s.Kind ≤ k ∧ x ≠ 0 then some 1 else o := by
    intro k x o hk hx ho
    by_cases h : usedS s.Kind ≤ k ∧ x ≠ 0
    · rw [if_pos h]
      exact fix_done fun next => by rw [st next k x hk hx, if_pos h]
    · rw [if_neg h, ← ho]
      exact fix_goto _ fun next => by rw [st next k x hk hx, if_neg h]
  have e4 : fix (fun next3 q => R_StepFault_l3 s next3 q) 4 = R_StepFault_j1 s := fix_done h4
  have e3 := g 3 s.D _ (by decide) rfl e4
  have e2 := g 2 s.C _ (by decide) rfl e3
  have e1 := g 1 s.B _ (by decide) rfl e2
  have e0 := g 0 s.A _ (by decide) rfl e1
  refine e0.trans ?_
  by_cases h0 : usedS s.Kind ≤ 0 ∧ s.A ≠ 0
  · rw [if_pos h0, if_pos (show formS s from .inl h0)]
  · rw [if_neg h0]
    by_cases h1 : usedS s.Kind ≤ 1 ∧ s.B ≠ 0
    · rw [if_pos h1, if_pos (show formS s from .inr (.inl h1))]
    · rw [if_neg h1]
      by_cases h2 : usedS s.Kind ≤ 2 ∧ s.C ≠ 0
      · rw [if_pos h2, if_pos (show formS s from .inr (.inr (.inl h2)))]
      · rw [if_neg h2]
        by_cases h3 : usedS s.Kind ≤ 3 ∧ s.D ≠ 0
        · rw [if_pos h3, if_pos (show formS s from .inr (.inr (.inr h3)))]
        · rw [if_neg h3, if_neg]
          rintro (h | h | h | h)
          · exact h0 h
          · exact h1 h
          · exact h2 h
          · exact h3 h

theorem R_out_eq (a b c : Int) : R_StepFault_1 a b c = some (decide (a < b) || decide (c < a)) := by
  unfold R_StepFault_1
  rw [cnd_if]
  by_cases h : a < b
  · rw [if_pos h, decide_eq_true h]; rfl
  · rw [if_neg h, decide_eq_false h]; rfl

theorem R_StepFault_j2_eq (s : T_edit_Step) (b : Bool) : R_StepFault_j2 s b = some (if b = true then 2 else if s.Kind = 6 ∧ s.B ≤ s.A then 5 else 0) := by
  unfold R_StepFault_j2
  cases b
  · rw [cnd_false, cnd_if, cnd_if]
    by_cases h : s.Kind = 6 <;> by_cases h' : s.B ≤ s.A <;> simp [h, h']
  · rfl

theorem R_StepFault_j1_eq (s : T_edit_Step) (hk : ¬ (s.Kind < 1 ∨ 9 < s.Kind)) : R_StepFault_j1 s = some (if badS s then 2 else if s.Kind = 6 ∧ s.B ≤ s.A then 5 else 0) := by
  have fin : ∀ b : Bool, (badS s ↔ b = true) → R_StepFault_j2 s b = some (if badS s then 2 else if s.Kind = 6 ∧ s.B ≤ s.A then 5 else 0) := by
    intro b hb
    rw [R_StepFault_j2_eq]
    by_cases h : badS s
    · rw [if_pos h, if_pos (hb.1 h)]
    · rw [if_neg h, if_neg fun h' => h (hb.2 h')]
  unfold R_StepFault_j1
  simp only [R_out_eq, bnd_pure]
  have two : ∀ (x y : Bool) (z : Option Int), cnd x (R_StepFault_j2 s true) z = if x = true then R_StepFault_j2 s true else z := by
    intro x y z; cases x <;> rfl
  rcases kinds hk with h | h | h | h | h | h | h | h | h
  all_goals simp only [cnd_if, h, if_true, if_false, (by decide : ((2 : Int) = 1) = False), (by decide : ((3 : Int) = 1) = False), (by decide : ((3 : Int) = 2) = False), (by decide : ((4 : Int) = 1) = False), (by decide : ((4 : Int) = 2) = False), (by decide : ((4 : Int) = 3) = False), (by decide : ((5 : Int) = 1) = False), (by decide : ((5 : Int) = 2) = False), (by decide : ((5 : Int) = 3) = False), (by decide : ((5 : Int) = 4) = False), (by decide : ((6 : Int) = 1) = False), (by decide : ((6 : Int) = 2) = False), (by decide : ((6 : Int) = 3) = False), (by decide : ((6 : Int) = 4) = False), (by decide : ((6 : Int) = 5) = False), (by decide : ((7 : Int) = 1) = False), (by decide : ((7 : Int) = 2) = False), (by decide : ((7 : Int) = 3) = False), (by decide : ((7 : Int) = 4) = False), (by decide : ((7 : Int) = 5) = False), (by decide : ((7 : Int) = 6) = False), (by decide : ((8 : Int) = 1) = False), (by decide : ((8 : Int) = 2) = False), (by decide : ((8 : Int) = 3) = False), (by decide : ((8 : Int) = 4) = False), (by decide : ((8 : Int) = 5) = False), (by decide : ((8 : Int) = 6) = False), (by decide : ((8 : Int) = 7) = False), (by decide : ((9 : Int) = 1) = False), (by decide : ((9 : Int) = 2) = False), (by decide : ((9 : Int) = 3) = False), (by decide : ((9 : Int) = 4) = False), (by decide : ((9 : Int) = 5) = False), (by decide : ((9 : Int) = 6) = False), (by decide : ((9 : Int) = 7) = False), (by decide : ((9 : Int) = 8) = False)]
  all_goals skip
  · rw [fin _ (by simp [badS, h])]; simp [h]
  · cases h1 : (decide (s.A < 0) || decide (63 < s.A))
    · rw [cnd_false]
      cases h2 : (decide (s.B < 0) || decide (63 < s.B))
      · rw [cnd_false]
        cases h3 : (decide (s.C < 1) || decide (64 < s.C))
        · rw [cnd_false, fin _ (by simp [badS, h] at *; omega)]; simp [h]
        · rw [cnd_true, fin _ (by simp [badS, h] at *; omega)]; simp [h]
      · rw [cnd_true, fin _ (by simp [badS, h] at *; omega)]; simp [h]
    · rw [cnd_true, fin _ (by simp [badS, h] at *; omega)]; simp [h]
  · cases h1 : (decide (s.A < 1) || decide (64 < s.A))
    · rw [cnd_false, fin _ (by simp [badS, h] at *; omega)]; simp [h]
    · rw [cnd_true, fin _ (by simp [badS, h] at *; omega)]; simp [h]
  · rw [fin _ (by simp [badS, h])]; simp [h]
  · rw [fin _ (by simp [badS, h])]; simp [h]
  · cases h1 : (decide (s.A < 0) || decide (255 < s.A))
    · rw [cnd_false, fin _ (by simp [badS, h] at *; omega)]; simp [h]
    · rw [cnd_true, fin _ (by simp [badS, h] at *; omega)]; simp [h]
  · rw [fin _ (by simp [badS, h])]; simp [h]
  · rw [fin _ (by simp [badS, h])]; simp [h]
  · rw [fin _ (by simp [badS, h])]; simp [h]

theorem StepFault_eq (s : T_edit_Step) : R_StepFault s = some (stepE s) := by
  unfold R_StepFault stepE
  rw [cnd_if, cnd_if]
  by_cases h1 : s.Kind < 1
  · rw [if_pos h1, if_pos (.inl h1)]
  · rw [if_neg h1]
    by_cases h2 : 9 < s.Kind
    · rw [if_pos h2, if_pos (.inr h2)]
    · have h : ¬ (s.Kind < 1 ∨ 9 < s.Kind) := by omega
      rw [if_neg h2, if_neg h, R_StepFault_l3_eq s h]
      by_cases h3 : formS s
      · rw [if_pos h3, if_pos h3]
      · rw [if_neg h3, if_neg h3, R_StepFault_j1_eq s h]

/-- What is wrong with a recipe. -/
def stepsE (l : List T_edit_Step) : Int := if 50 < l.length then 4 else fstE (l.map stepE)

theorem Check_eq (l : List T_edit_Step) : edit_Check l = some (stepsE l) := by
  unfold edit_Check stepsE
  rw [cnd_if]
  by_cases h : 50 < l.length
  · rw [if_pos (by omega), if_pos h]
  · rw [if_neg (by omega), if_neg h]
    refine scanL l stepE (fun next k hk => ?_) fun next => ?_
    · show edit_Check_l1 l next k = _
      unfold edit_Check_l1
      rw [cnd_if, if_pos (by omega), gAt_nat hk, bnd_pure, CheckStep_eq, bnd_pure, cnd_if, gI_ok (by omega), bnd_pure]
      by_cases h0 : stepE l[k] = 0
      · rw [if_neg (by simpa using h0), if_pos h0]
      · rw [if_pos h0, if_neg h0]
    · show edit_Check_l1 l next l.length = _
      unfold edit_Check_l1
      rw [cnd_if, if_neg (by omega)]

theorem StepsFault_eq (l : List T_edit_Step) : R_StepsFault l = some (stepsE l) := by
  unfold R_StepsFault stepsE
  rw [cnd_if]
  by_cases h : 50 < l.length
  · rw [if_pos (by omega), if_pos h]
  · rw [if_neg (by omega), if_neg h]
    refine scanL l stepE (fun next k hk => ?_) fun next => ?_
    · show R_StepsFault_l1 l next k = _
      unfold R_StepsFault_l1
      rw [cnd_if, if_pos (by omega), gAt_nat hk, bnd_pure, StepFault_eq, bnd_pure, cnd_if, gI_ok (by omega), bnd_pure]
      by_cases h0 : stepE l[k] = 0
      · rw [if_neg (by simpa using h0), if_pos h0]
      · rw [if_pos h0, if_neg h0]
    · show R_StepsFault_l1 l next l.length = _
      unfold R_StepsFault_l1
      rw [cnd_if, if_neg (by omega)]

theorem stepsE_ok {l : List T_edit_Step} (h : stepsE l = 0) : l.length ≤ 50 ∧ ∀ s ∈ l, stepE s = 0 := by
  unfold stepsE at h
  split at h
  · cases h
  · exact ⟨by omega, fun s hs => fstE_zero h _ (List.mem_map.2 ⟨s, hs, rfl⟩)⟩

/-- A right step: its kind, and its numbers' bounds. -/
theorem stepE_ok {s : T_edit_Step} (h : stepE s = 0) : (1 ≤ s.Kind ∧ s.Kind ≤ 9) ∧ ¬ badS s ∧ ¬ formS s ∧ (s.Kind = 6 → s.A < s.B) := by
  unfold stepE at h
  split at h
  · cases h
  · split at h
    · cases h
    · split at h
      · cases h
      · split at h
        · cases h
        · rename_i h1 h2 h3 h4
          exact ⟨by omega, h3, h2, fun h5 => by omega⟩

theorem stepE_nums {s : T_edit_Step} (h : stepE s = 0) : -255 ≤ s.A ∧ s.A ≤ 400 ∧ 0 ≤ s.B ∧ s.B ≤ 255 ∧ 0 ≤ s.C ∧ s.C ≤ 64 ∧ 0 ≤ s.D ∧ s.D ≤ 64 := by
  obtain ⟨h1, h2, h3, h4⟩ := stepE_ok h
  unfold badS at h2
  unfold formS usedS at h3
  rcases kinds (k := s.Kind) (by omega) with h | h | h | h | h | h | h | h | h <;> simp [h] at h2 h3 <;> omega

end Go.M

/- Plain lemmas about recipes: sizes, and where a pixel comes from. Conditions: those that each lemma names. -/
namespace Go.M
open Go.Md Go.Pl

/-! ### sizes -/

/-- The size behind all steps. -/
def sizeGo : List T_edit_Step → Int → Int → Int × Int × Int
  | [], w, h => (w, h, 0)
  | s :: r, w, h =>
    if s.Kind = 1 then (if 5 ≤ s.A then sizeGo r h w else sizeGo r w h)
    else if s.Kind = 2 then (if s.A + s.C ≤ w ∧ s.B + s.D ≤ h then sizeGo r s.C s.D else (0, 0, 7))
    else if s.Kind = 3 then sizeGo r s.A s.B
    else sizeGo r w h
def sizeS (l : List T_edit_Step) (w h : Int) : Int × Int × Int := if 1 ≤ w ∧ w ≤ 64 ∧ 1 ≤ h ∧ h ≤ 64 then sizeGo l w h else (0, 0, 2)

def okAll (l : List T_edit_Step) : Prop := ∀ s ∈ l, stepE s = 0

theorem okAll.at {l : List T_edit_Step} (h : okAll l) {k : Nat} (hk : k < l.length) : stepE l[k] = 0 := h _ (List.getElem_mem hk)
theorem okAll.take {l : List T_edit_Step} (h : okAll l) (k : Nat) : okAll (l.take k) := fun s hs => h s (List.mem_of_mem_take hs)
theorem okAll.drop {l : List T_edit_Step} (h : okAll l) (k : Nat) : okAll (l.drop k) := fun s hs => h s (List.mem_of_mem_drop hs)

theorem size_loop {F : (Int × Int × Int → Option (Int × Int × Int)) → Int × Int × Int → Option (Int × Int × Int)} (l : List T_edit_Step) (h : okAll l) (hl : l.length ≤ 1000000)
    (step : ∀ (next : Int × Int × Int → Option (Int × Int × Int)) (k : Nat) (w h : Int) (hk : k < l.length), stepE l[k] = 0 → F next (w, h, (k : Int)) =
      (if l[k].Kind = 1 then (if 5 ≤ l[k].A then next (h, w, (k : Int) + 1) else next (w, h, (k : Int) + 1))
      else if l[k].Kind = 2 then (if l[k].A + l[k].C ≤ w ∧ l[k].B + l[k].D ≤ h then next (l[k].C, l[k].D, (k : Int) + 1) else some (0, 0, 7))
      else if l[k].Kind = 3 then next (l[k].A, l[k].B, (k : Int) + 1)
      else next (w, h, (k : Int) + 1)))
    (last : ∀ next w h, F next (w, h, (l.length : Int)) = some (w, h, 0)) (w0 h0 : Int) : fix F (w0, h0, 0) = some (sizeGo l w0 h0) := by
  have key := fix_of (F := F) (fun i => some (sizeGo (l.drop i.2.2.toNat) i.1 i.2.1)) (fun i => 0 ≤ i.2.2 ∧ i.2.2 ≤ l.length) (fun i => l.length - i.2.2.toNat) (by
    rintro next ⟨w, hh, a⟩ ⟨g0, g1⟩ ih
    simp only at g0 g1
    obtain ⟨k, rfl⟩ := Int.eq_ofNat_of_zero_le g0
    have nx : ∀ w' h', k < l.length → next (w', h', (k : Int) + 1) = some (sizeGo (l.drop (k + 1)) w' h') := fun w' h' hk => by
      have := ih (w', h', (k : Int) + 1) ⟨by simp only; omega, by simp only; omega⟩ (by simp only; omega)
      rw [this]; simp only [show ((k : Int) + 1).toNat = k + 1 from by omega]
    simp only [Int.toNat_natCast]
    by_cases hk : k < l.length
    · rw [step next k w hh hk (h.at hk), List.drop_eq_getElem_cons hk]
      simp only [sizeGo, nx _ _ hk]
      split
      · split <;> rfl
      · split
        · split <;> rfl
        · split <;> rfl
    · have : k = l.length := by omega
      subst this
      rw [last, List.drop_of_length_le (Nat.le_refl _)]; rfl) (w0, h0, 0) ⟨by simp, by simp⟩
  simpa using key

theorem edit_size_eq {l : List T_edit_Step} (h : okAll l) (hl : l.length ≤ 1000000) (a b : Int) : edit_size l a b = some (sizeS l a b) := by
  unfold edit_size sizeS
  rw [outside_edit, bnd_pure, outside_edit, bnd_pure]
  by_cases h1 : 1 ≤ a ∧ a ≤ 64
  · rw [decide_eq_false (by omega), decide_eq_false (by omega), Bool.or_false, cnd_false]
    by_cases h2 : 1 ≤ b ∧ b ≤ 64
    · rw [decide_eq_false (by omega), decide_eq_false (by omega), Bool.or_false, cnd_false, if_pos ⟨h1.1, h1.2, h2⟩]
      refine size_loop l h hl (fun next k w hh hk hs => ?_) (fun next w hh => ?_) a b
      · show edit_size_l2 l next w hh k = _
        unfold edit_size_l2
        have hn := stepE_nums hs
        rw [cnd_if, if_pos (by omega), gAt_nat hk, bnd_pure]
        have e : edit_Step_size l[k] w hh = some (if l[k].Kind = 1 then (if 5 ≤ l[k].A then (hh, w, true) else (w, hh, true)) else if l[k].Kind = 2 then (l[k].C, l[k].D, decide (l[k].A + l[k].C ≤ w ∧ l[k].B + l[k].D ≤ hh)) else if l[k].Kind = 3 then (l[k].A, l[k].B, true) else (w, hh, true)) := by
          unfold edit_Step_size edit_Step_size_j1
          rw [cnd_if, cnd_if, cnd_if, cnd_if, gI_ok (by omega), bnd_pure, gI_ok (by omega), bnd_pure, cnd_if]
          split
          · split <;> rfl
          · split
            · by_cases q1 : l[k].A + l[k].C ≤ w <;> by_cases q2 : l[k].B + l[k].D ≤ hh <;> simp [q1, q2]
            · split <;> rfl
        rw [e, bnd_pure, gI_ok (by omega), bnd_pure]
        split
        · split <;> rfl
        · split
          · by_cases q : l[k].A + l[k].C ≤ w ∧ l[k].B + l[k].D ≤ hh
            · rw [if_pos q]; simp [q]
            · rw [if_neg q]; simp [q]
          · split <;> rfl
      · show edit_size_l2 l next w hh l.length = _
        unfold edit_size_l2
        rw [cnd_if, if_neg (by omega)]; rfl
    · have : (decide (b < 1) || decide (64 < b)) = true := by simp; omega
      rw [this, cnd_true, if_neg (by omega)]
  · have : (decide (a < 1) || decide (64 < a)) = true := by simp; omega
    rw [this, cnd_true, if_neg (by omega)]

theorem R_SizeOf_eq {l : List T_edit_Step} (h : okAll l) (hl : l.length ≤ 1000000) (a b : Int) : R_SizeOf l a b = some (sizeS l a b) := by
  unfold R_SizeOf sizeS
  rw [cnd_if, cnd_if, cnd_if, cnd_if]
  by_cases h1 : 1 ≤ a ∧ a ≤ 64 ∧ 1 ≤ b ∧ b ≤ 64
  · rw [if_neg (by omega), if_neg (by omega), if_neg (by omega), if_neg (by omega), if_pos h1]
    refine size_loop l h hl (fun next k w hh hk hs => ?_) (fun next w hh => ?_) a b
    · show R_SizeOf_l2 l next w hh k = _
      unfold R_SizeOf_l2 R_SizeOf_j3
      have hn := stepE_nums hs
      rw [cnd_if, if_pos (by omega), gAt_nat hk, bnd_pure, gI_ok (x := l[k].A + l[k].C) (by omega), gI_ok (x := l[k].B + l[k].D) (by omega), gI_ok (x := (k : Int) + 1) (by omega)]
      simp only [bnd_pure, cnd_if]
      split
      · rfl
      · split
        · by_cases q1 : l[k].A + l[k].C ≤ w
          · rw [if_neg (by omega)]
            by_cases q2 : l[k].B + l[k].D ≤ hh
            · rw [if_neg (by omega), if_pos ⟨q1, q2⟩]
            · rw [if_pos (by omega), if_neg (fun h => q2 h.2)]
          · rw [if_pos (by omega), if_neg (fun h => q1 h.1)]
        · rfl
    · show R_SizeOf_l2 l next w hh l.length = _
      unfold R_SizeOf_l2
      rw [cnd_if, if_neg (by omega)]; rfl
  · rw [if_neg h1]
    repeat' split
    all_goals first | rfl | omega

theorem sizeGo_in : ∀ {l : List T_edit_Step} {w h : Int}, okAll l → (0 ≤ w ∧ w ≤ 64 ∧ 0 ≤ h ∧ h ≤ 64) → 0 ≤ (sizeGo l w h).1 ∧ (sizeGo l w h).1 ≤ 64 ∧ 0 ≤ (sizeGo l w h).2.1 ∧ (sizeGo l w h).2.1 ≤ 64
  | [], _, _, _, hw => hw
  | s :: r, w, h, ho, hw => by
    have hr : okAll r := fun x hx => ho x (by simp [hx])
    have hs := ho s (by simp)
    have hn := stepE_nums hs
    have hb := (stepE_ok hs).2.1
    simp only [sizeGo]
    split
    · split
      · exact sizeGo_in hr (by omega)
      · exact sizeGo_in hr hw
    · split
      · split
        · exact sizeGo_in hr (by omega)
        · simp
      · split
        · rename_i h3
          refine sizeGo_in hr ?_
          unfold badS at hb
          simp [h3] at hb
          omega
        · exact sizeGo_in hr hw

theorem sizeS_in {l : List T_edit_Step} {w h : Int} (ho : okAll l) : 0 ≤ (sizeS l w h).1 ∧ (sizeS l w h).1 ≤ 64 ∧ 0 ≤ (sizeS l w h).2.1 ∧ (sizeS l w h).2.1 ≤ 64 := by
  unfold sizeS
  split
  · exact sizeGo_in ho (by omega)
  · simp

/-! ### where a pixel comes from -/

def srcS (t w h x y : Int) : Int × Int :=
  if t = 2 then (w - 1 - x, y) else if t = 3 then (w - 1 - x, h - 1 - y) else if t = 4 then (x, h - 1 - y) else if t = 5 then (y, x) else if t = 6 then (y, h - 1 - x) else if t = 7 then (w - 1 - y, h - 1 - x) else if t = 8 then (w - 1 - y, x) else (x, y)

theorem From_eq {t w h x y : Int} (ht : 1 ≤ t ∧ t ≤ 8) (hw : -1000000 ≤ w ∧ w ≤ 1000000 ∧ -1000000 ≤ h ∧ h ≤ 1000000) (hx : -1000000 ≤ x ∧ x ≤ 1000000 ∧ -1000000 ≤ y ∧ y ≤ 1000000) : pix_From t w h x y = some (srcS t w h x y) := by
  unfold pix_From pix_turnings
  rw [bnd_pure, gIx_ok (by omega), bnd_pure]
  have ht' : t = 1 ∨ t = 2 ∨ t = 3 ∨ t = 4 ∨ t = 5 ∨ t = 6 ∨ t = 7 ∨ t = 8 := by omega
  rcases ht' with rfl | rfl | rfl | rfl | rfl | rfl | rfl | rfl
  · show bnd (pix_turnings_1 w h x y) _ = _
    rfl
  · show bnd (pix_turnings_2 w h x y) _ = _
    unfold pix_turnings_2; rw [gI_ok (by omega), bnd_pure, gI_ok (by omega), bnd_pure]; rfl
  · show bnd (pix_turnings_3 w h x y) _ = _
    unfold pix_turnings_3; rw [gI_ok (by omega), bnd_pure, gI_ok (by omega), bnd_pure, gI_ok (by omega), bnd_pure, gI_ok (by omega), bnd_pure]; rfl
  · show bnd (pix_turnings_4 w h x y) _ = _
    unfold pix_turnings_4; rw [gI_ok (by omega), bnd_pure, gI_ok (by omega), bnd_pure]; rfl
  · show bnd (pix_turnings_5 w h x y) _ = _
    rfl
  · show bnd (pix_turnings_6 w h x y) _ = _
    unfold pix_turnings_6; rw [gI_ok (by omega), bnd_pure, gI_ok (by omega), bnd_pure]; rfl
  · show bnd (pix_turnings_7 w h x y) _ = _
    unfold pix_turnings_7; rw [gI_ok (by omega), bnd_pure, gI_ok (by omega), bnd_pure, gI_ok (by omega), bnd_pure, gI_ok (by omega), bnd_pure]; rfl
  · show bnd (pix_turnings_8 w h x y) _ = _
    unfold pix_turnings_8; rw [gI_ok (by omega), bnd_pure, gI_ok (by omega), bnd_pure]; rfl

theorem source_eq {t w h x y : Int} (hw : -1000000 ≤ w ∧ w ≤ 1000000 ∧ -1000000 ≤ h ∧ h ≤ 1000000) (hx : -1000000 ≤ x ∧ x ≤ 1000000 ∧ -1000000 ≤ y ∧ y ≤ 1000000) : R_source t w h x y = some (srcS t w h x y) := by
  have g : ∀ a b : Int, -2000001 ≤ a ∧ a ≤ 2000000 → -1000000 ≤ b ∧ b ≤ 1000000 → gI (a - b) = some (a - b) := fun a b h1 h2 => gI_ok (by omega)
  unfold R_source srcS
  rw [g w 1 (by omega) (by omega), g h 1 (by omega) (by omega)]
  simp only [bnd_pure, cnd_if]
  rw [g (w - 1) x (by omega) (by omega), g (h - 1) x (by omega) (by omega), g (w - 1) y (by omega) (by omega), g (h - 1) y (by omega) (by omega)]
  simp only [bnd_pure]
  repeat' split
  all_goals rfl

/-- Back through the first i steps. -/
def comesGo (l : List T_edit_Step) (w h : Int) : Nat → Int → Int → Int × Int × Int
  | 0, x, y => (x, y, 0)
  | i + 1, x, y =>
    let s := l.getD i default
    if s.Kind = 1 then comesGo l w h i (srcS s.A (sizeS (l.take i) w h).1 (sizeS (l.take i) w h).2.1 x y).1 (srcS s.A (sizeS (l.take i) w h).1 (sizeS (l.take i) w h).2.1 x y).2
    else if s.Kind = 2 then comesGo l w h i (x + s.A) (y + s.B) else comesGo l w h i x y

theorem srcS_in {t w h x y b : Int} (hb : 0 ≤ b) (hw : 0 ≤ w ∧ w ≤ 64 ∧ 0 ≤ h ∧ h ≤ 64) (hx : -b ≤ x ∧ x ≤ b ∧ -b ≤ y ∧ y ≤ b) :
    -(b + 64) ≤ (srcS t w h x y).1 ∧ (srcS t w h x y).1 ≤ b + 64 ∧ -(b + 64) ≤ (srcS t w h x y).2 ∧ (srcS t w h x y).2 ≤ b + 64 := by
  unfold srcS
  repeat' split
  all_goals simp only
  all_goals omega

/-- Where a pixel comes from, or what is wrong. -/
def comesS (l : List T_edit_Step) (w h x y : Int) : Int × Int × Int :=
  if (sizeS l w h).2.2 ≠ 0 then (0, 0, (sizeS l w h).2.2)
  else if l.any (fun s => decide (s.Kind = 3)) then (0, 0, 11)
  else if x < 0 ∨ (sizeS l w h).1 ≤ x ∨ y < 0 ∨ (sizeS l w h).2.1 ≤ y then (0, 0, 2)
  else comesGo l w h l.length x y

theorem comes_loop {F : (Int × Int × Int → Option (Int × Int × Int)) → Int × Int × Int → Option (Int × Int × Int)} (l : List T_edit_Step) (w h : Int) (ho : okAll l) (hl : l.length ≤ 50)
    (step : ∀ (next : Int × Int × Int → Option (Int × Int × Int)) (k : Nat) (x y : Int) (hk : k < l.length), (-100000 ≤ x ∧ x ≤ 100000 ∧ -100000 ≤ y ∧ y ≤ 100000) → F next (x, y, (k : Int)) =
      (if l[k].Kind = 1 then next ((srcS l[k].A (sizeS (l.take k) w h).1 (sizeS (l.take k) w h).2.1 x y).1, (srcS l[k].A (sizeS (l.take k) w h).1 (sizeS (l.take k) w h).2.1 x y).2, (k : Int) - 1)
      else if l[k].Kind = 2 then next (x + l[k].A, y + l[k].B, (k : Int) - 1) else next (x, y, (k : Int) - 1)))
    (last : ∀ next x y, F next (x, y, -1) = some (x, y, 0)) (x0 y0 : Int) (hx : -64 ≤ x0 ∧ x0 ≤ 64 ∧ -64 ≤ y0 ∧ y0 ≤ 64) : fix F (x0, y0, (l.length : Int) - 1) = some (comesGo l w h l.length x0 y0) := by
  have key := fix_of (F := F) (fun i => some (comesGo l w h (i.2.2 + 1).toNat i.1 i.2.1))
    (fun i => -1 ≤ i.2.2 ∧ i.2.2 < l.length ∧ -(64 + 400 * (50 - i.2.2)) ≤ i.1 ∧ i.1 ≤ 64 + 400 * (50 - i.2.2) ∧ -(64 + 400 * (50 - i.2.2)) ≤ i.2.1 ∧ i.2.1 ≤ 64 + 400 * (50 - i.2.2)) (fun i => (i.2.2 + 1).toNat) (by
    rintro next ⟨x, y, a⟩ ⟨g0, g1, g2, g3, g4, g5⟩ ih
    simp only at g0 g1 g2 g3 g4 g5
    by_cases hm : a = -1
    · subst hm
      rw [last]; rfl
    · obtain ⟨k, rfl⟩ := Int.eq_ofNat_of_zero_le (show 0 ≤ a by omega)
      have hk : k < l.length := by omega
      have hn := stepE_nums (ho.at hk)
      rw [step next k x y hk (by omega)]
      have nx : ∀ x' y', -(64 + 400 * (50 - ((k : Int) - 1))) ≤ x' ∧ x' ≤ 64 + 400 * (50 - ((k : Int) - 1)) ∧ -(64 + 400 * (50 - ((k : Int) - 1))) ≤ y' ∧ y' ≤ 64 + 400 * (50 - ((k : Int) - 1)) → next (x', y', (k : Int) - 1) = some (comesGo l w h k x' y') := fun x' y' hb => by
        have := ih (x', y', (k : Int) - 1) ⟨by simp only; omega, by simp only; omega, by simp only; omega, by simp only; omega, by simp only; omega, by simp only; omega⟩ (by simp only; omega)
        rw [this]; simp only [show ((k : Int) - 1 + 1).toNat = k from by omega]
      have e0 : l.getD k default = l[k] := by rw [List.getD_eq_getElem?_getD, List.getElem?_eq_getElem hk]; rfl
      simp only [show ((k : Int) + 1).toNat = k + 1 from by omega, comesGo, e0]
      have hz := sizeS_in (w := w) (h := h) (ho.take k)
      split
      · have hs := srcS_in (t := l[k].A) (w := (sizeS (l.take k) w h).1) (h := (sizeS (l.take k) w h).2.1) (x := x) (y := y) (b := 64 + 400 * (50 - (k : Int))) (by omega) (by omega) ⟨g2, g3, g4, g5⟩
        rw [nx _ _ (by omega)]
      · split
        · rw [nx _ _ (by omega)]
        · rw [nx _ _ (by omega)]) (x0, y0, (l.length : Int) - 1) ⟨by simp only; omega, by simp only; omega, by simp only; omega, by simp only; omega, by simp only; omega, by simp only; omega⟩
  rw [key]
  simp only [show ((l.length : Int) - 1 + 1).toNat = l.length from by omega]

end Go.M

/- Plain lemmas about tone steps: what they make of bytes and of pixels. Conditions: those that each lemma names. -/
namespace Go.M
open Go.Md Go.Pl

def clampS (n : Int) : Int := min (max n 0) 255
theorem clampS_in (n : Int) : 0 ≤ clampS n ∧ clampS n ≤ 255 := by unfold clampS; omega
theorem clampS_id {n : Int} (h : 0 ≤ n ∧ n ≤ 255) : clampS n = n := by unfold clampS; omega

theorem clamp_eq (n : Int) : edit_clamp n = some (clampS n) := by
  show some (wU8 (clampS n)) = _
  rw [wU8_in (clampS_in n)]
theorem floorQ {a b : Int} (hb : 0 < b) : a / b = a.tdiv b - (if a.tmod b < 0 then 1 else 0) := by
  rw [Int.tdiv_eq_ediv, Int.tmod_eq_emod]
  have h1 := Int.emod_nonneg a (show b ≠ 0 by omega)
  have h2 := Int.emod_lt_of_pos a hb
  have hs : b.sign = 1 := Int.sign_eq_one_of_pos hb
  have hn : (b.natAbs : Int) = b := by omega
  by_cases h : 0 ≤ a ∨ b ∣ a
  · rw [if_pos h, if_pos h]
    rw [if_neg (by omega)]; omega
  · have hne : a % b ≠ 0 := fun h0 => h (.inr (Int.dvd_of_emod_eq_zero h0))
    rw [if_neg h, if_neg h, hs]
    rw [if_pos (by omega)]; omega

theorem edit_floor_eq {a b : Int} (hb : 0 < b) (ha : -9223372036854775000 ≤ a ∧ a ≤ 9223372036854775000) : edit_floor a b = some (a / b) := by
  unfold edit_floor
  have hq := floorQ (a := a) hb
  have h1 := Int.natAbs_tdiv_le_natAbs a b
  rw [gQuo_ok (by omega) (by omega), bnd_pure, gRem_ok (by omega), bnd_pure, cnd_if, gI_ok (by omega), bnd_pure]
  split
  · rename_i h; rw [if_pos h] at hq; rw [hq]
  · rename_i h; rw [if_neg h] at hq; rw [hq]; simp

/-! ### bytes -/

/-- What a tone step makes of a byte, of those that look at single bytes. -/
def toneB (s : T_edit_Step) (v : Int) : Int :=
  if s.Kind = 4 then clampS (v + s.A) else if s.Kind = 5 then clampS (128 + (v - 128) * s.A / 100) else if s.Kind = 6 then clampS ((v - s.A) * 255 / (s.B - s.A)) else 255 - v
/-- It looks at single bytes. -/
def byteK (s : T_edit_Step) : Prop := s.Kind = 4 ∨ s.Kind = 5 ∨ s.Kind = 6 ∨ s.Kind = 9
instance (s : T_edit_Step) : Decidable (byteK s) := by unfold byteK; infer_instance

theorem toneB_in {s : T_edit_Step} {v : Int} (hv : 0 ≤ v ∧ v ≤ 255) : 0 ≤ toneB s v ∧ toneB s v ≤ 255 := by
  unfold toneB
  repeat' split
  · exact clampS_in _
  · exact clampS_in _
  · exact clampS_in _
  · omega

theorem mul_in {x a : Int} (hx : -1000 ≤ x ∧ x ≤ 1000) (ha : -1000 ≤ a ∧ a ≤ 1000) : -1000000 ≤ x * a ∧ x * a ≤ 1000000 := by
  have h1 : (x * a).natAbs = x.natAbs * a.natAbs := Int.natAbs_mul x a
  have h2 : x.natAbs * a.natAbs ≤ 1000 * 1000 := Nat.mul_le_mul (by omega) (by omega)
  omega

theorem ediv_in {x b : Int} (hb : 0 < b) (hx : -1000000 ≤ x ∧ x ≤ 1000000) : -1000000 ≤ x / b ∧ x / b ≤ 1000000 := by
  constructor
  · rw [Int.le_ediv_iff_mul_le hb]
    have : -1000000 * b ≤ -1000000 * 1 := Int.mul_le_mul_of_nonpos_left (by omega) (by omega)
    omega
  · by_cases h0 : 0 ≤ x
    · have := Int.ediv_le_self b h0; omega
    · have := Int.ediv_neg_of_neg_of_pos (show x < 0 by omega) hb; omega

theorem light_eq {s : T_edit_Step} (hs : stepE s = 0) {v : Int} (hv : 0 ≤ v ∧ v ≤ 255) : edit_Step_light s v = some (clampS (v + s.A)) := by
  have hn := stepE_nums hs
  unfold edit_Step_light
  rw [gK_ok (by omega), bnd_pure, gI_ok (by omega), bnd_pure, clamp_eq, bnd_pure]
theorem spread_eq {s : T_edit_Step} (hs : stepE s = 0) {v : Int} (hv : 0 ≤ v ∧ v ≤ 255) : edit_Step_spread s v = some (clampS (128 + (v - 128) * s.A / 100)) := by
  have hn := stepE_nums hs
  have hm := mul_in (x := v - 128) (a := s.A) (by omega) (by omega)
  have hd := ediv_in (x := (v - 128) * s.A) (b := 100) (by omega) hm
  unfold edit_Step_spread
  rw [gK_ok (by omega), bnd_pure, gI_ok (by omega), bnd_pure, gI_ok (by omega), bnd_pure, edit_floor_eq (by omega) (by omega), bnd_pure, gI_ok (by omega), bnd_pure, clamp_eq, bnd_pure]
theorem levels_eq {s : T_edit_Step} (hs : stepE s = 0) (hk : s.Kind = 6) {v : Int} (hv : 0 ≤ v ∧ v ≤ 255) : edit_Step_levels s v = some (clampS ((v - s.A) * 255 / (s.B - s.A))) := by
  have hn := stepE_nums hs
  have hlt := (stepE_ok hs).2.2.2 hk
  have hm := mul_in (x := v - s.A) (a := 255) (by omega) (by omega)
  unfold edit_Step_levels
  rw [gK_ok (by omega), bnd_pure, gI_ok (by omega), bnd_pure, gI_ok (by omega), bnd_pure, gI_ok (by omega), bnd_pure, edit_floor_eq (by omega) (by omega), bnd_pure, clamp_eq, bnd_pure]
theorem invert_eq (s : T_edit_Step) {v : Int} (hv : 0 ≤ v ∧ v ≤ 255) : edit_Step_invert s v = some (255 - v) := by
  unfold edit_Step_invert
  rw [wU8_in (by omega)]

/-- The function of a step that looks at single bytes. -/
theorem byByte_some {s : T_edit_Step} (hs : stepE s = 0) (hk : byteK s) : ∃ g, edit_Step_byByte s = some (some g) ∧ ∀ v, 0 ≤ v ∧ v ≤ 255 → g v = some (toneB s v) := by
  unfold edit_Step_byByte
  simp only [cnd_if]
  rcases hk with h | h | h | h
  · exact ⟨_, if_pos h, fun v hv => by rw [light_eq hs hv]; simp [toneB, h]⟩
  · exact ⟨_, by rw [if_neg (by omega), if_pos h], fun v hv => by rw [spread_eq hs hv]; simp [toneB, h]⟩
  · exact ⟨_, by rw [if_neg (by omega), if_neg (by omega), if_pos h], fun v hv => by rw [levels_eq hs h hv]; simp [toneB, h]⟩
  · exact ⟨_, by rw [if_neg (by omega), if_neg (by omega), if_neg (by omega), if_pos h], fun v hv => by rw [invert_eq s hv]; simp [toneB, h]⟩
theorem byByte_none {s : T_edit_Step} (hk : ¬ byteK s) : edit_Step_byByte s = some none := by
  unfold byteK at hk
  unfold edit_Step_byByte
  simp only [cnd_if]
  rw [if_neg (by omega), if_neg (by omega), if_neg (by omega), if_neg (by omega)]

/-! ### arrays, place by place -/

/-- A loop over all places of an array. -/
theorem fill_loop {ρ : Type} {F : (Int × (Nat → Int) → Option ρ) → Int × (Nat → Int) → Option ρ} (n : Nat) (g : Nat → Int) (J : (Nat → Int) → Option ρ)
    (step : ∀ (next : Int × (Nat → Int) → Option ρ) (k : Nat) (m : Nat → Int), k < n → F next ((k : Int), m) = next ((k : Int) + 1, setA m k (g k)))
    (last : ∀ next m, F next ((n : Int), m) = J m) (m0 : Nat → Int) : fix F (0, m0) = J (fun j => if j < n then g j else m0 j) := by
  have key := up2 (F := F) n (fun _ _ => J (fun j => if j < n then g j else m0 j)) (fun k m => ∀ j, m j = if j < k then g j else m0 j) (by
    intro next k m hk hm ih
    by_cases h : k < n
    · rw [step next k m h]
      refine ih _ h fun j => ?_
      unfold setA
      by_cases hj : j = k
      · subst hj; rw [if_pos rfl, if_pos (by omega)]
      · rw [if_neg hj, hm j]
        by_cases h1 : j < k
        · rw [if_pos h1, if_pos (by omega)]
        · rw [if_neg h1, if_neg (by omega)]
    · have : k = n := by omega
      subst this
      rw [last]
      congr 1
      funext j; exact hm j) m0 (fun j => by simp)
  exact key

theorem straight_eq : edit_straight = some (fun j : Nat => if j < 256 then (j : Int) else 0) := by
  unfold edit_straight
  refine fill_loop 256 (fun j => (j : Int)) (fun m => some m) (fun next k m hk => ?_) (fun next m => ?_) (fun _ => 0)
  · show edit_straight_l2 next k m = _
    unfold edit_straight_l2
    rw [cnd_if, if_pos (by omega), gIx_nat hk, bnd_pure, gI_ok (by omega), bnd_pure, wU8_in (by omega)]
  · show edit_straight_l2 next 256 m = _
    unfold edit_straight_l2
    rw [cnd_if, if_neg (by omega)]; rfl

def byteArr (n : Nat) (c : Nat → Int) : Prop := ∀ j, j < n → 0 ≤ c j ∧ c j ≤ 255

theorem after_eq {s : T_edit_Step} (hs : stepE s = 0) {c : Nat → Int} (hc : byteArr 256 c) : edit_curve_after c s = some (if byteK s then (fun j => if j < 256 then toneB s (c j) else c j, true) else (c, false)) := by
  unfold edit_curve_after
  by_cases hk : byteK s
  · obtain ⟨g, h1, h2⟩ := byByte_some hs hk
    rw [h1, bnd_pure, if_pos hk]
    show fix _ _ = _
    refine fill_loop 256 (fun j => toneB s (c j)) (fun m => some (m, true)) (fun next k m hk' => ?_) (fun next m => ?_) c
    · show edit_curve_after_l2 c (some g) next k m = _
      unfold edit_curve_after_l2 gFn
      rw [cnd_if, if_pos (by omega), gIx_nat hk', bnd_pure, bnd_pure, h2 _ (hc k hk'), bnd_pure, bnd_pure, gI_ok (by omega), bnd_pure]
    · show edit_curve_after_l2 c (some g) next 256 m = _
      unfold edit_curve_after_l2
      rw [cnd_if, if_neg (by omega)]; rfl
  · rw [byByte_none hk, bnd_pure, if_neg hk]; rfl

/-- What becomes of a byte. -/
def byteFold (l : List T_edit_Step) (v : Int) : Int := l.foldl (fun v s => toneB s v) v

theorem byteFold_in : ∀ (l : List T_edit_Step) {v : Int}, 0 ≤ v ∧ v ≤ 255 → 0 ≤ byteFold l v ∧ byteFold l v ≤ 255
  | [], _, h => h
  | s :: r, _, h => byteFold_in r (toneB_in h)

/-! ### pixels -/

/-- What a tone step makes of a colour of a pixel. -/
def dotS (s : T_edit_Step) (p : Nat → Int) (j : Nat) : Int :=
  if s.Kind = 7 then clampS (p j + (if j = 0 then s.A else if j = 1 then 0 else -s.A))
  else if s.Kind = 8 then clampS (p j + ((77 * p 0 + 150 * p 1 + 29 * p 2) / 256 - p j) * s.A / 100)
  else if byteK s then toneB s (p j) else clampS (p j)
def dotA (s : T_edit_Step) (p : Nat → Int) (j : Nat) : Int := if j < 3 then dotS s p j else p j

theorem dotS_in {s : T_edit_Step} {p : Nat → Int} {j : Nat} (h : 0 ≤ p j ∧ p j ≤ 255) : 0 ≤ dotS s p j ∧ dotS s p j ≤ 255 := by
  unfold dotS
  repeat' split
  all_goals first | exact clampS_in _ | exact toneB_in h

theorem dotA_byte {s : T_edit_Step} {p : Nat → Int} (h : byteArr 3 p) : byteArr 3 (dotA s p) := fun j hj => by
  unfold dotA; rw [if_pos hj]; exact dotS_in (h j hj)

end Go.M
