/- Plain lemmas about steps of recipes: what is wrong with one, what size it makes, where a pixel comes from. Conditions: those that each lemma names. -/
import Derived.Test.YtohdhdiaahiicaaPl2
import Derived.Test.YtohdhdiaahiicaaMHi
namespace Go.M
open Go.Md Go.Pl

/-! ### the fault of a step -/

/-- The first number that is not 0. -/
def fstE : List Int → Int
  | [] => 0
  | e :: r => if e = 0 then fstE r else e

theorem fstE_zero : ∀ {l : List Int}, fstE l = 0 → ∀ e ∈ l, e = 0
  | [], _, _, h => by cases h
  | e :: r, h, x, hx => by
    simp only [fstE] at h
    split at h
    · rename_i h0
      rcases List.mem_cons.1 hx with rfl | hx
      · exact h0
      · exact fstE_zero h x hx
    · rename_i h0; exact absurd h h0

theorem fstE_all : ∀ {l : List Int}, (∀ e ∈ l, e = 0) → fstE l = 0
  | [], _ => rfl
  | e :: r, h => by
    simp only [fstE]
    rw [if_pos (h e (by simp)), fstE_all fun x hx => h x (by simp [hx])]

/-- A loop over a list that stops at the first error. -/
theorem scanL {α : Type} {F : (Int → Option Int) → Int → Option Int} (xs : List α) (c : α → Int) (step : ∀ (next : Int → Option Int) (k : Nat) (hk : k < xs.length), F next (k : Int) = if c xs[k] = 0 then next ((k : Int) + 1) else some (c xs[k])) (last : ∀ next, F next (xs.length : Int) = some 0) : fix F 0 = some (fstE (xs.map c)) := by
  have h := up (F := F) xs.length (fun k => some (fstE ((xs.drop k).map c))) (by
    intro next k hk ih
    by_cases h : k < xs.length
    · rw [step next k h, List.drop_eq_getElem_cons h]
      simp only [List.map_cons, fstE]
      split
      · rw [ih h]
      · rfl
    · have : k = xs.length := by omega
      subst this
      rw [last, List.drop_of_length_le (Nat.le_refl _)]; rfl)
  simpa using h

/-- Whether a number of a list lies out of its bounds. -/
def outB (t : Nat → Nat → Int) : List Int → Nat → Bool
  | [], _ => false
  | x :: r, k => decide (x < t k 0) || decide (t k 1 < x) || outB t r (k + 1)

theorem outside_edit (a b c : Int) : edit_outside a b c = some (decide (a < b) || decide (c < a)) := by
  unfold edit_outside
  rw [cnd_if]
  by_cases h : a < b
  · rw [if_pos h, decide_eq_true h]; rfl
  · rw [if_neg h, decide_eq_false h]; rfl

theorem CheckStep_l4_eq (a0 : T_edit_Step) (t17 : List UInt8 × Int) (t21 l : List Int) (hl : l.length ≤ 100) :
    fix (fun next4 s => edit_CheckStep_l4 a0 t17 t21 l next4 s) 0 = if l.any (fun x => decide (x ≠ 0)) then some 1 else edit_CheckStep_j1 a0 t17 t21 := by
  have h := up (F := fun next4 s => edit_CheckStep_l4 a0 t17 t21 l next4 s) l.length (fun k => if (l.drop k).any (fun x => decide (x ≠ 0)) then some 1 else edit_CheckStep_j1 a0 t17 t21) (by
    intro next k hk ih
    show edit_CheckStep_l4 a0 t17 t21 l next k = _
    unfold edit_CheckStep_l4
    rw [cnd_if]
    by_cases h : k < l.length
    · rw [if_pos (by omega), gAt_nat h, bnd_pure, cnd_if, gI_ok (by omega), bnd_pure, ih h, List.drop_eq_getElem_cons h]
      rw [List.any_cons]
      by_cases h0 : l[k] = 0
      · rw [if_neg (by simpa using h0), decide_eq_false (by simpa using h0), Bool.false_or]
      · rw [if_pos h0, decide_eq_true h0, Bool.true_or, if_pos rfl]
    · have : k = l.length := by omega
      subst this
      rw [if_neg (by omega), List.drop_of_length_le (Nat.le_refl _)]; rfl)
  simpa using h

theorem CheckStep_l3_eq (a0 : T_edit_Step) (t35 : Nat → Nat → Int) (l : List Int) (hl : l.length ≤ 4) :
    fix (fun next3 s => edit_CheckStep_l3 a0 t35 l next3 s) 0 = if outB t35 l 0 then some 2 else edit_CheckStep_j2 a0 := by
  have h := up (F := fun next3 s => edit_CheckStep_l3 a0 t35 l next3 s) l.length (fun k => if outB t35 (l.drop k) k then some 2 else edit_CheckStep_j2 a0) (by
    intro next k hk ih
    show edit_CheckStep_l3 a0 t35 l next k = _
    unfold edit_CheckStep_l3
    rw [cnd_if]
    by_cases h : k < l.length
    · rw [if_pos (by omega), gAt_nat h, bnd_pure, gIx_nat (by omega), bnd_pure, bnd_pure, outside_edit, bnd_pure, gI_ok (by omega), bnd_pure, ih h, List.drop_eq_getElem_cons h]
      rw [show outB t35 (l[k] :: l.drop (k + 1)) k = (decide (l[k] < t35 k 0) || decide (t35 k 1 < l[k]) || outB t35 (l.drop (k + 1)) (k + 1)) from rfl]
      by_cases hq : l[k] < t35 k 0 ∨ t35 k 1 < l[k]
      · have : (decide (l[k] < t35 k 0) || decide (t35 k 1 < l[k])) = true := by simpa using hq
        rw [this, cnd_true, Bool.true_or, if_pos rfl]
      · have : (decide (l[k] < t35 k 0) || decide (t35 k 1 < l[k])) = false := by simpa using hq
        rw [this, cnd_false, Bool.false_or]
    · have : k = l.length := by omega
      subst this
      rw [if_neg (by omega), List.drop_of_length_le (Nat.le_refl _)]; rfl)
  simpa using h

/-- How many numbers a kind uses, and their bounds. -/
def usedS (k : Int) : Nat := if k = 1 then 1 else if k = 2 then 4 else if k = 3 then 2 else if k = 4 then 1 else if k = 5 then 1 else if k = 6 then 2 else if k = 7 then 1 else if k = 8 then 1 else 0
def badS (s : T_edit_Step) : Prop :=
  (s.Kind = 1 ∧ (s.A < 1 ∨ 8 < s.A)) ∨ (s.Kind = 2 ∧ (s.A < 0 ∨ 63 < s.A ∨ s.B < 0 ∨ 63 < s.B ∨ s.C < 1 ∨ 64 < s.C ∨ s.D < 1 ∨ 64 < s.D)) ∨ (s.Kind = 3 ∧ (s.A < 1 ∨ 64 < s.A ∨ s.B < 1 ∨ 64 < s.B)) ∨
  (s.Kind = 4 ∧ (s.A < -255 ∨ 255 < s.A)) ∨ (s.Kind = 5 ∧ (s.A < 0 ∨ 400 < s.A)) ∨ (s.Kind = 6 ∧ (s.A < 0 ∨ 255 < s.A ∨ s.B < 0 ∨ 255 < s.B)) ∨ (s.Kind = 7 ∧ (s.A < -100 ∨ 100 < s.A)) ∨ (s.Kind = 8 ∧ (s.A < 0 ∨ 100 < s.A))
instance (s : T_edit_Step) : Decidable (badS s) := by unfold badS; infer_instance
def formS (s : T_edit_Step) : Prop := (usedS s.Kind ≤ 0 ∧ s.A ≠ 0) ∨ (usedS s.Kind ≤ 1 ∧ s.B ≠ 0) ∨ (usedS s.Kind ≤ 2 ∧ s.C ≠ 0) ∨ (usedS s.Kind ≤ 3 ∧ s.D ≠ 0)
instance (s : T_edit_Step) : Decidable (formS s) := by unfold formS; infer_instance

/-- What is wrong with a step. -/
def stepE (s : T_edit_Step) : Int :=
  if s.Kind < 1 ∨ 9 < s.Kind then 10 else if formS s then 1 else if badS s then 2 else if s.Kind = 6 ∧ s.B ≤ s.A then 5 else 0

theorem kinds {k : Int} (h : ¬ (k < 1 ∨ 9 < k)) : k = 1 ∨ k = 2 ∨ k = 3 ∨ k = 4 ∨ k = 5 ∨ k = 6 ∨ k = 7 ∨ k = 8 ∨ k = 9 := by omega

theorem CheckStep_j2_eq (s : T_edit_Step) : edit_CheckStep_j2 s = some (if s.Kind = 6 ∧ s.B ≤ s.A then 5 else 0) := by
  unfold edit_CheckStep_j2
  rw [cnd_if, cnd_if]
  by_cases h : s.Kind = 6 <;> by_cases h' : s.B ≤ s.A <;> simp [h, h']

theorem cut4 (a b c d : Int) (n : Nat) (h : n ≤ 4) : gCut [a, b, c, d] (n : Int) (([a, b, c, d] : List Int).length : Int) = some ([a, b, c, d].drop n) := by
  rw [gCut_from (by simp; omega), Int.toNat_natCast]
theorem cut4t (a b c d : Int) (n : Nat) (h : n ≤ 4) : gCut [a, b, c, d] 0 (n : Int) = some ([a, b, c, d].take n) := by
  rw [gCut_to (by simp; omega), Int.toNat_natCast]

theorem CheckStep_eq (s : T_edit_Step) : edit_CheckStep s = some (stepE s) := by
  unfold edit_CheckStep stepE
  rw [outside_edit, bnd_pure]
  by_cases h : s.Kind < 1 ∨ 9 < s.Kind
  · have : (decide (s.Kind < 1) || decide (9 < s.Kind)) = true := by simpa using h
    rw [this, cnd_true, if_pos h]
  · have : (decide (s.Kind < 1) || decide (9 < s.Kind)) = false := by simpa using h
    rw [this, cnd_false, if_neg h]
    have key : ∀ (w : List UInt8) (t : Nat → Nat → Int), edit_word s.Kind = some (w, (usedS s.Kind : Int)) → edit_bounds s.Kind = some t → usedS s.Kind ≤ 4 → (formS s ↔ ([s.A, s.B, s.C, s.D].drop (usedS s.Kind)).any (fun x => decide (x ≠ 0)) = true) → (badS s ↔ outB t ([s.A, s.B, s.C, s.D].take (usedS s.Kind)) 0 = true) →
        (bnd (edit_word s.Kind) fun t17 => bnd (edit_Step_numbers s) fun t21 => bnd (gCut t21 t17.2 t21.length) fun t24 => fix (fun next4 q => edit_CheckStep_l4 s t17 t21 t24 next4 q) 0) = some (if formS s then 1 else if badS s then 2 else if s.Kind = 6 ∧ s.B ≤ s.A then 5 else 0) := by
      intro w t hw ht hu hf hb
      rw [hw, bnd_pure]
      unfold edit_Step_numbers
      rw [bnd_pure]
      simp only
      rw [cut4 _ _ _ _ _ hu, bnd_pure, CheckStep_l4_eq _ _ _ _ (by simp; omega)]
      by_cases h1 : formS s
      · rw [if_pos (hf.1 h1), if_pos h1]
      · rw [if_neg (fun h => h1 (hf.2 h)), if_neg h1]
        unfold edit_CheckStep_j1
        rw [ht, bnd_pure]
        simp only
        rw [cut4t _ _ _ _ _ hu, bnd_pure, CheckStep_l3_eq _ _ _ (by simp; omega)]
        by_cases h2 : badS s
        · rw [if_pos (hb.1 h2), if_pos h2]
        · rw [if_neg (fun h => h2 (hb.2 h)), if_neg h2, CheckStep_j2_eq]
    rcases kinds h with h | h | h | h | h | h | h | h | h
    all_goals
      refine key _ _ (by rw [h]; rfl) (by rw [h]; rfl) (by rw [h]; decide) ?_ ?_
    all_goals simp [formS, badS, usedS, h, outB, ofL, or_assoc]

theorem R_StepFault_l3_eq (s : T_edit_Step) (hk : ¬ (s.Kind < 1 ∨ 9 < s.Kind)) :
    fix (fun next3 q => R_StepFault_l3 s next3 q) 0 = if formS s then some 1 else R_StepFault_j1 s := by
  have hu : R_numbersUsed s.Kind = some (usedS s.Kind : Int) := by
    rcases kinds hk with h | h | h | h | h | h | h | h | h <;> rw [h] <;> rfl
  have st : ∀ (next : Int → Option Int) (k : Nat) (x : Int), k < 4 → gAt [s.A, s.B, s.C, s.D] (k : Int) = some x → R_StepFault_l3 s next (k : Int) = if usedS s.Kind ≤ k ∧ x ≠ 0 then some 1 else next ((k : Int) + 1) := by
    intro next k x hk hx
    unfold R_StepFault_l3 R_StepFault_j4
    rw [cnd_if, if_pos (by omega), hx, bnd_pure, hu, bnd_pure, cnd_if, cnd_if, gI_ok (by omega), bnd_pure]
    by_cases h1 : usedS s.Kind ≤ k
    · rw [if_pos (by omega)]
      by_cases h2 : x = 0 <;> simp [h1, h2]
    · rw [if_neg (by omega), if_neg (fun h => h1 h.1)]
  have h4 : ∀ next : Int → Option Int, R_StepFault_l3 s next 4 = R_StepFault_j1 s := by
    intro next; unfold R_StepFault_l3; rw [cnd_if, if_neg (by decide)]
  have g : ∀ (k : Nat) (x : Int) (o : Option Int), k < 4 → gAt [s.A, s.B, s.C, s.D] (k : Int) = some x → fix (fun next3 q => R_StepFault_l3 s next3 q) ((k : Int) + 1) = o → fix (fun next3 q => R_StepFault_l3 s next3 q) (k : Int) = if usedS s.Kind ≤ k ∧ x ≠ 0 then some 1 else o := by
    intro k x o hk hx ho
    by_cases h : usedS s.Kind ≤ k ∧ x ≠ 0
    · rw [if_pos h]
      exact fix_done fun next => by rw [st next k x hk hx, if_pos h]
    · rw [if_neg h, ← ho]
      exact fix_goto _ fun next => by rw [st next k x hk hx, if_neg h]
  have e4 : fix (fun next3 q => R_StepFault_l3 s next3 q) 4 = R_StepFault_j1 s := fix_done h4
  have e3 := g 3 s.D _ (by decide) rfl e4
  have e2 := g 2 s.C _ (by decide) rfl e3
  have e1 := g 1 s.B _ (by decide) rfl e2
  have e0 := g 0 s.A _ (by decide) rfl e1
  refine e0.trans ?_
  by_cases h0 : usedS s.Kind ≤ 0 ∧ s.A ≠ 0
  · rw [if_pos h0, if_pos (show formS s from .inl h0)]
  · rw [if_neg h0]
    by_cases h1 : usedS s.Kind ≤ 1 ∧ s.B ≠ 0
    · rw [if_pos h1, if_pos (show formS s from .inr (.inl h1))]
    · rw [if_neg h1]
      by_cases h2 : usedS s.Kind ≤ 2 ∧ s.C ≠ 0
      · rw [if_pos h2, if_pos (show formS s from .inr (.inr (.inl h2)))]
      · rw [if_neg h2]
        by_cases h3 : usedS s.Kind ≤ 3 ∧ s.D ≠ 0
        · rw [if_pos h3, if_pos (show formS s from .inr (.inr (.inr h3)))]
        · rw [if_neg h3, if_neg]
          rintro (h | h | h | h)
          · exact h0 h
          · exact h1 h
          · exact h2 h
          · exact h3 h

theorem R_out_eq (a b c : Int) : R_StepFault_1 a b c = some (decide (a < b) || decide (c < a)) := by
  unfold R_StepFault_1
  rw [cnd_if]
  by_cases h : a < b
  · rw [if_pos h, decide_eq_true h]; rfl
  · rw [if_neg h, decide_eq_false h]; rfl

theorem R_StepFault_j2_eq (s : T_edit_Step) (b : Bool) : R_StepFault_j2 s b = some (if b = true then 2 else if s.Kind = 6 ∧ s.B ≤ s.A then 5 else 0) := by
  unfold R_StepFault_j2
  cases b
  · rw [cnd_false, cnd_if, cnd_if]
    by_cases h : s.Kind = 6 <;> by_cases h' : s.B ≤ s.A <;> simp [h, h']
  · rfl

theorem R_StepFault_j1_eq (s : T_edit_Step) (hk : ¬ (s.Kind < 1 ∨ 9 < s.Kind)) : R_StepFault_j1 s = some (if badS s then 2 else if s.Kind = 6 ∧ s.B ≤ s.A then 5 else 0) := by
  have fin : ∀ b : Bool, (badS s ↔ b = true) → R_StepFault_j2 s b = some (if badS s then 2 else if s.Kind = 6 ∧ s.B ≤ s.A then 5 else 0) := by
    intro b hb
    rw [R_StepFault_j2_eq]
    by_cases h : badS s
    · rw [if_pos h, if_pos (hb.1 h)]
    · rw [if_neg h, if_neg fun h' => h (hb.2 h')]
  unfold R_StepFault_j1
  simp only [R_out_eq, bnd_pure]
  have two : ∀ (x y : Bool) (z : Option Int), cnd x (R_StepFault_j2 s true) z = if x = true then R_StepFault_j2 s true else z := by
    intro x y z; cases x <;> rfl
  rcases kinds hk with h | h | h | h | h | h | h | h | h
  all_goals simp only [cnd_if, h, if_true, if_false, (by decide : ((2 : Int) = 1) = False), (by decide : ((3 : Int) = 1) = False), (by decide : ((3 : Int) = 2) = False), (by decide : ((4 : Int) = 1) = False), (by decide : ((4 : Int) = 2) = False), (by decide : ((4 : Int) = 3) = False), (by decide : ((5 : Int) = 1) = False), (by decide : ((5 : Int) = 2) = False), (by decide : ((5 : Int) = 3) = False), (by decide : ((5 : Int) = 4) = False), (by decide : ((6 : Int) = 1) = False), (by decide : ((6 : Int) = 2) = False), (by decide : ((6 : Int) = 3) = False), (by decide : ((6 : Int) = 4) = False), (by decide : ((6 : Int) = 5) = False), (by decide : ((7 : Int) = 1) = False), (by decide : ((7 : Int) = 2) = False), (by decide : ((7 : Int) = 3) = False), (by decide : ((7 : Int) = 4) = False), (by decide : ((7 : Int) = 5) = False), (by decide : ((7 : Int) = 6) = False), (by decide : ((8 : Int) = 1) = False), (by decide : ((8 : Int) = 2) = False), (by decide : ((8 : Int) = 3) = False), (by decide : ((8 : Int) = 4) = False), (by decide : ((8 : Int) = 5) = False), (by decide : ((8 : Int) = 6) = False), (by decide : ((8 : Int) = 7) = False), (by decide : ((9 : Int) = 1) = False), (by decide : ((9 : Int) = 2) = False), (by decide : ((9 : Int) = 3) = False), (by decide : ((9 : Int) = 4) = False), (by decide : ((9 : Int) = 5) = False), (by decide : ((9 : Int) = 6) = False), (by decide : ((9 : Int) = 7) = False), (by decide : ((9 : Int) = 8) = False)]
  all_goals skip
  · rw [fin _ (by simp [badS, h])]; simp [h]
  · cases h1 : (decide (s.A < 0) || decide (63 < s.A))
    · rw [cnd_false]
      cases h2 : (decide (s.B < 0) || decide (63 < s.B))
      · rw [cnd_false]
        cases h3 : (decide (s.C < 1) || decide (64 < s.C))
        · rw [cnd_false, fin _ (by simp [badS, h] at *; omega)]; simp [h]
        · rw [cnd_true, fin _ (by simp [badS, h] at *; omega)]; simp [h]
      · rw [cnd_true, fin _ (by simp [badS, h] at *; omega)]; simp [h]
    · rw [cnd_true, fin _ (by simp [badS, h] at *; omega)]; simp [h]
  · cases h1 : (decide (s.A < 1) || decide (64 < s.A))
    · rw [cnd_false, fin _ (by simp [badS, h] at *; omega)]; simp [h]
    · rw [cnd_true, fin _ (by simp [badS, h] at *; omega)]; simp [h]
  · rw [fin _ (by simp [badS, h])]; simp [h]
  · rw [fin _ (by simp [badS, h])]; simp [h]
  · cases h1 : (decide (s.A < 0) || decide (255 < s.A))
    · rw [cnd_false, fin _ (by simp [badS, h] at *; omega)]; simp [h]
    · rw [cnd_true, fin _ (by simp [badS, h] at *; omega)]; simp [h]
  · rw [fin _ (by simp [badS, h])]; simp [h]
  · rw [fin _ (by simp [badS, h])]; simp [h]
  · rw [fin _ (by simp [badS, h])]; simp [h]

theorem StepFault_eq (s : T_edit_Step) : R_StepFault s = some (stepE s) := by
  unfold R_StepFault stepE
  rw [cnd_if, cnd_if]
  by_cases h1 : s.Kind < 1
  · rw [if_pos h1, if_pos (.inl h1)]
  · rw [if_neg h1]
    by_cases h2 : 9 < s.Kind
    · rw [if_pos h2, if_pos (.inr h2)]
    · have h : ¬ (s.Kind < 1 ∨ 9 < s.Kind) := by omega
      rw [if_neg h2, if_neg h, R_StepFault_l3_eq s h]
      by_cases h3 : formS s
      · rw [if_pos h3, if_pos h3]
      · rw [if_neg h3, if_neg h3, R_StepFault_j1_eq s h]

/-- What is wrong with a recipe. -/
def stepsE (l : List T_edit_Step) : Int := if 50 < l.length then 4 else fstE (l.map stepE)

theorem Check_eq (l : List T_edit_Step) : edit_Check l = some (stepsE l) := by
  unfold edit_Check stepsE
  rw [cnd_if]
  by_cases h : 50 < l.length
  · rw [if_pos (by omega), if_pos h]
  · rw [if_neg (by omega), if_neg h]
    refine scanL l stepE (fun next k hk => ?_) fun next => ?_
    · show edit_Check_l1 l next k = _
      unfold edit_Check_l1
      rw [cnd_if, if_pos (by omega), gAt_nat hk, bnd_pure, CheckStep_eq, bnd_pure, cnd_if, gI_ok (by omega), bnd_pure]
      by_cases h0 : stepE l[k] = 0
      · rw [if_neg (by simpa using h0), if_pos h0]
      · rw [if_pos h0, if_neg h0]
    · show edit_Check_l1 l next l.length = _
      unfold edit_Check_l1
      rw [cnd_if, if_neg (by omega)]

theorem StepsFault_eq (l : List T_edit_Step) : R_StepsFault l = some (stepsE l) := by
  unfold R_StepsFault stepsE
  rw [cnd_if]
  by_cases h : 50 < l.length
  · rw [if_pos (by omega), if_pos h]
  · rw [if_neg (by omega), if_neg h]
    refine scanL l stepE (fun next k hk => ?_) fun next => ?_
    · show R_StepsFault_l1 l next k = _
      unfold R_StepsFault_l1
      rw [cnd_if, if_pos (by omega), gAt_nat hk, bnd_pure, StepFault_eq, bnd_pure, cnd_if, gI_ok (by omega), bnd_pure]
      by_cases h0 : stepE l[k] = 0
      · rw [if_neg (by simpa using h0), if_pos h0]
      · rw [if_pos h0, if_neg h0]
    · show R_StepsFault_l1 l next l.length = _
      unfold R_StepsFault_l1
      rw [cnd_if, if_neg (by omega)]

theorem stepsE_ok {l : List T_edit_Step} (h : stepsE l = 0) : l.length ≤ 50 ∧ ∀ s ∈ l, stepE s = 0 := by
  unfold stepsE at h
  split at h
  · cases h
  · exact ⟨by omega, fun s hs => fstE_zero h _ (List.mem_map.2 ⟨s, hs, rfl⟩)⟩

/-- A right step: its kind, and its numbers' bounds. -/
theorem stepE_ok {s : T_edit_Step} (h : stepE s = 0) : (1 ≤ s.Kind ∧ s.Kind ≤ 9) ∧ ¬ badS s ∧ ¬ formS s ∧ (s.Kind = 6 → s.A < s.B) := by
  unfold stepE at h
  split at h
  · cases h
  · split at h
    · cases h
    · split at h
      · cases h
      · split at h
        · cases h
        · rename_i h1 h2 h3 h4
          exact ⟨by omega, h3, h2, fun h5 => by omega⟩

theorem stepE_nums {s : T_edit_Step} (h : stepE s = 0) : -255 ≤ s.A ∧ s.A ≤ 400 ∧ 0 ≤ s.B ∧ s.B ≤ 255 ∧ 0 ≤ s.C ∧ s.C ≤ 64 ∧ 0 ≤ s.D ∧ s.D ≤ 64 := by
  obtain ⟨h1, h2, h3, h4⟩ := stepE_ok h
  unfold badS at h2
  unfold formS usedS at h3
  rcases kinds (k := s.Kind) (by omega) with h | h | h | h | h | h | h | h | h <;> simp [h] at h2 h3 <;> omega

end Go.M
