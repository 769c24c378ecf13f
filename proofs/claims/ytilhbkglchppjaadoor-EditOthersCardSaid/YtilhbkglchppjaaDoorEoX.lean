/- Recipes compared, in plain Lean. Conditions: none. -/
import Derived.Test.YtilhbkglchppjaaDoorEoV
namespace Go.M
open Go.Md Go.Pl

theorem eq_step {x y : T_edit_Step} : eq_edit_Step x y = true ↔ x = y := by
  cases x; cases y; simp [eq_edit_Step]
theorem ne_step {x y : T_edit_Step} (h : x ≠ y) : eq_edit_Step x y = false := by
  cases hb : eq_edit_Step x y
  · rfl
  · exact absurd (eq_step.1 hb) h

open Classical in
/-- With how many equal steps two recipes begin. -/
noncomputable def comN : List T_edit_Step → List T_edit_Step → Nat
  | x :: a, y :: b => if x = y then comN a b + 1 else 0
  | _, _ => 0

theorem comN_le : ∀ (a b : List T_edit_Step), comN a b ≤ a.length ∧ comN a b ≤ b.length
  | [], b => by simp [comN]
  | x :: a, [] => by simp [comN]
  | x :: a, y :: b => by
    have := comN_le a b
    unfold comN
    split <;> simp <;> omega
theorem comN_take : ∀ (a b : List T_edit_Step) (k : Nat), k ≤ comN a b → a.take k = b.take k
  | [], b, k, h => by have := comN_le [] b; simp at this; have : k = 0 := by omega
                      subst this; simp
  | x :: a, [], k, h => by have := comN_le (x :: a) []; simp at this; have : k = 0 := by omega
                           subst this; simp
  | x :: a, y :: b, 0, _ => by simp
  | x :: a, y :: b, k + 1, h => by
    unfold comN at h
    split at h
    · rename_i hxy; subst hxy
      rw [List.take_succ_cons, List.take_succ_cons, comN_take a b k (by omega)]
    · omega
theorem comN_self : ∀ a : List T_edit_Step, comN a a = a.length
  | [] => by simp [comN]
  | x :: a => by unfold comN; rw [if_pos rfl, comN_self a]; rfl
theorem comN_symm : ∀ a b : List T_edit_Step, comN a b = comN b a
  | [], [] => rfl
  | [], y :: b => by simp [comN]
  | x :: a, [] => by simp [comN]
  | x :: a, y :: b => by
    unfold comN
    by_cases h : x = y
    · rw [if_pos h, if_pos h.symm, comN_symm a b]
    · rw [if_neg h, if_neg fun e => h e.symm]
theorem Common_eq (a b : List T_edit_Step) (ha : a.length ≤ 3518437208780) : edit_Common a b = some ((comN a b : Nat) : Int) := by
  unfold edit_Common
  have key := fix_of (F := fun next1 s => edit_Common_l1 a b next1 s) (fun i => some (i + (comN (a.drop i.toNat) (b.drop i.toNat) : Nat))) (fun i => 0 ≤ i ∧ i ≤ a.length) (fun i => a.length - i.toNat) (by
    rintro next i ⟨g0, g1⟩ ih
    obtain ⟨k, rfl⟩ := Int.eq_ofNat_of_zero_le g0
    show edit_Common_l1 a b next (k : Int) = _
    unfold edit_Common_l1
    rw [Int.toNat_natCast, cnd_if]
    by_cases h1 : k < a.length
    · rw [if_pos (by omega), cnd_if]
      by_cases h2 : k < b.length
      · rw [if_pos (by omega), gAt_nat h1, bnd_pure, gAt_nat h2, bnd_pure, List.drop_eq_getElem_cons h1, List.drop_eq_getElem_cons h2]
        unfold comN
        by_cases h : a[k] = b[k]
        · rw [eq_step.2 h, cnd_true, if_pos h, gI_ok (by omega), bnd_pure, ih _ ⟨by omega, by omega⟩ (by omega)]
          rw [show ((k : Int) + 1).toNat = k + 1 from by omega]
          congr 1
          omega
        · rw [ne_step h, cnd_false, if_neg h]; simp
      · rw [if_neg (by omega), List.drop_of_length_le (l := b) (by omega)]
        have : comN (a.drop k) [] = 0 := by cases a.drop k <;> simp [comN]
        rw [this]; simp
    · rw [if_neg (by omega), List.drop_of_length_le (l := a) (by omega)]
      have : comN [] (b.drop k) = 0 := by simp [comN]
      rw [this]; simp) 0 ⟨by simp, by simp⟩
  rw [key]; simp

theorem Same_ex (a b : List T_edit_Step) (ha : a.length ≤ 3518437208780) : ∃ c, edit_Same a b = some c ∧ (c = true ↔ a = b) := by
  unfold edit_Same slices_Equal_edit_Step
  rw [cnd_if]
  by_cases hl : a.length = b.length
  · rw [if_neg (by omega)]
    have key := fix_of (F := fun next1 s => slices_Equal_edit_Step_l1 a b next1 s) (fun i => some (open Classical in decide (a.drop i.toNat = b.drop i.toNat))) (fun i => 0 ≤ i ∧ i ≤ a.length) (fun i => a.length - i.toNat) (by
      rintro next i ⟨g0, g1⟩ ih
      obtain ⟨k, rfl⟩ := Int.eq_ofNat_of_zero_le g0
      show slices_Equal_edit_Step_l1 a b next (k : Int) = _
      unfold slices_Equal_edit_Step_l1
      rw [Int.toNat_natCast, cnd_if]
      by_cases h1 : k < a.length
      · have h2 : k < b.length := by omega
        rw [if_pos (by omega), gAt_nat h1, bnd_pure, gAt_nat h2, bnd_pure, List.drop_eq_getElem_cons h1, List.drop_eq_getElem_cons h2]
        by_cases h : a[k] = b[k]
        · rw [eq_step.2 h, Bool.not_true, cnd_false, gI_ok (by omega), bnd_pure, ih _ ⟨by omega, by omega⟩ (by omega)]
          rw [show ((k : Int) + 1).toNat = k + 1 from by omega, h]
          exact congrArg some (decide_eq_decide.2 ⟨fun e => by rw [e], fun e => (List.cons.inj e).2⟩)
        · rw [ne_step h, Bool.not_false, cnd_true]
          exact congrArg some (decide_eq_false_iff_not.2 (fun e => h (List.cons.inj e).1)).symm
      · rw [if_neg (by omega), List.drop_of_length_le (l := a) (by omega), List.drop_of_length_le (l := b) (by omega)]
        simp) 0 ⟨by simp, by simp⟩
    rw [key, bnd_pure]
    exact ⟨_, rfl, by simp⟩
  · rw [if_pos (by omega), bnd_pure]
    exact ⟨false, rfl, by simp; exact fun h => hl (by rw [h])⟩

theorem Same_t {a b : List T_edit_Step} (ha : a.length ≤ 3518437208780) (h : a = b) : edit_Same a b = some true := by
  obtain ⟨c, h1, h2⟩ := Same_ex a b ha
  rw [h1, h2.2 h]
theorem Same_f {a b : List T_edit_Step} (ha : a.length ≤ 3518437208780) (h : a ≠ b) : edit_Same a b = some false := by
  obtain ⟨c, h1, h2⟩ := Same_ex a b ha
  cases c with
  | true => exact absurd (h2.1 rfl) h
  | false => exact h1

theorem checkAll3 (a b c : List T_edit_Step) : edit_checkAll [a, b, c] = some (if stepsE a ≠ 0 then stepsE a else if stepsE b ≠ 0 then stepsE b else stepsE c) := by
  unfold edit_checkAll
  have st : ∀ (k : Nat) (l : List T_edit_Step) (next : Int → Option Int), gAt [a, b, c] (k : Int) = some l → k < 3 → edit_checkAll_l1 [a, b, c] next (k : Int) = if stepsE l ≠ 0 then some (stepsE l) else next ((k : Int) + 1) := fun k l next hg hk => by
    unfold edit_checkAll_l1
    rw [cnd_if, if_pos (by simp only [List.length_cons, List.length_nil]; omega), hg, bnd_pure, Check_eq, bnd_pure, cnd_if]
    split
    · rfl
    · rw [gI_ok (by omega), bnd_pure]
  by_cases h0 : stepsE a ≠ 0
  · rw [if_pos h0]
    exact fix_done fun next => (st 0 a next rfl (by omega)).trans (if_pos h0)
  rw [if_neg h0]
  refine (fix_goto (F := fun next1 s => edit_checkAll_l1 [a, b, c] next1 s) 1 fun next => (st 0 a next rfl (by omega)).trans (if_neg h0)).trans ?_
  by_cases h1 : stepsE b ≠ 0
  · rw [if_pos h1]
    exact fix_done fun next => (st 1 b next rfl (by omega)).trans (if_pos h1)
  rw [if_neg h1]
  refine (fix_goto (F := fun next1 s => edit_checkAll_l1 [a, b, c] next1 s) 2 fun next => (st 1 b next rfl (by omega)).trans (if_neg h1)).trans ?_
  by_cases h2 : stepsE c ≠ 0
  · exact fix_done fun next => (st 2 c next rfl (by omega)).trans (if_pos h2)
  · refine (fix_goto (F := fun next1 s => edit_checkAll_l1 [a, b, c] next1 s) 3 fun next => (st 2 c next rfl (by omega)).trans (if_neg h2)).trans ?_
    have : stepsE c = 0 := by omega
    rw [this]
    exact fix_done fun next => rfl

theorem Concat3 (a b c : List T_edit_Step) (ha : (a.length + b.length + c.length) * 40 ≤ 281474976710656) : slices_Concat_edit_Step [a, b, c] = some (a ++ b ++ c) := by
  unfold slices_Concat_edit_Step
  refine (fix_goto (F := fun next3 s => slices_Concat_edit_Step_l3 [a, b, c] next3 s.1 s.2) ((a.length : Int), 1) fun next => ?_).trans ((fix_goto (F := fun next3 s => slices_Concat_edit_Step_l3 [a, b, c] next3 s.1 s.2) ((a.length : Int) + (b.length : Int), 2) fun next => ?_).trans ((fix_goto (F := fun next3 s => slices_Concat_edit_Step_l3 [a, b, c] next3 s.1 s.2) ((a.length : Int) + (b.length : Int) + (c.length : Int), 3) fun next => ?_).trans (fix_done fun next => ?_)))
  · show slices_Concat_edit_Step_l3 [a, b, c] next 0 0 = _
    unfold slices_Concat_edit_Step_l3
    rw [cnd_if, if_pos (by simp only [List.length_cons, List.length_nil]; omega), show gAt [a, b, c] 0 = some a from rfl, bnd_pure, gI_ok (by omega), bnd_pure, cnd_if, if_neg (by omega), gI_ok (by omega), bnd_pure]
    simp
  · show slices_Concat_edit_Step_l3 [a, b, c] next (a.length : Int) 1 = _
    unfold slices_Concat_edit_Step_l3
    rw [cnd_if, if_pos (by simp only [List.length_cons, List.length_nil]; omega), show gAt [a, b, c] 1 = some b from rfl, bnd_pure, gI_ok (by omega), bnd_pure, cnd_if, if_neg (by omega), gI_ok (by omega), bnd_pure]
    rfl
  · show slices_Concat_edit_Step_l3 [a, b, c] next ((a.length : Int) + (b.length : Int)) 2 = _
    unfold slices_Concat_edit_Step_l3
    rw [cnd_if, if_pos (by simp only [List.length_cons, List.length_nil]; omega), show gAt [a, b, c] 2 = some c from rfl, bnd_pure, gI_ok (by omega), bnd_pure, cnd_if, if_neg (by omega), gI_ok (by omega), bnd_pure]
    rfl
  · show slices_Concat_edit_Step_l3 [a, b, c] next ((a.length : Int) + (b.length : Int) + (c.length : Int)) 3 = _
    unfold slices_Concat_edit_Step_l3
    rw [cnd_if, if_neg (by simp only [List.length_cons, List.length_nil]; omega)]
    unfold slices_Concat_edit_Step_j1
    rw [gGroC_ok (by omega), bnd_pure]
    refine (fix_goto (F := fun next2 s => slices_Concat_edit_Step_l2 [a, b, c] ((a.length : Int) + (b.length : Int) + (c.length : Int)).toNat next2 s.1 s.2) (1, a) fun next => ?_).trans ((fix_goto (F := fun next2 s => slices_Concat_edit_Step_l2 [a, b, c] ((a.length : Int) + (b.length : Int) + (c.length : Int)).toNat next2 s.1 s.2) (2, a ++ b) fun next => ?_).trans ((fix_goto (F := fun next2 s => slices_Concat_edit_Step_l2 [a, b, c] ((a.length : Int) + (b.length : Int) + (c.length : Int)).toNat next2 s.1 s.2) (3, a ++ b ++ c) fun next => ?_).trans (fix_done fun next => ?_)))
    · show slices_Concat_edit_Step_l2 [a, b, c] ((a.length : Int) + (b.length : Int) + (c.length : Int)).toNat next 0 [] = _
      unfold slices_Concat_edit_Step_l2
      rw [cnd_if, if_pos (by simp only [List.length_cons, List.length_nil]; omega), show gAt [a, b, c] 0 = some a from rfl, bnd_pure, gApC_ok (by simp only [List.length_nil]; omega), bnd_pure, gI_ok (by omega), bnd_pure]
      rfl
    · show slices_Concat_edit_Step_l2 [a, b, c] ((a.length : Int) + (b.length : Int) + (c.length : Int)).toNat next 1 a = _
      unfold slices_Concat_edit_Step_l2
      rw [cnd_if, if_pos (by simp only [List.length_cons, List.length_nil]; omega), show gAt [a, b, c] 1 = some b from rfl, bnd_pure, gApC_ok (by omega), bnd_pure, gI_ok (by omega), bnd_pure]
      rfl
    · show slices_Concat_edit_Step_l2 [a, b, c] ((a.length : Int) + (b.length : Int) + (c.length : Int)).toNat next 2 (a ++ b) = _
      unfold slices_Concat_edit_Step_l2
      rw [cnd_if, if_pos (by simp only [List.length_cons, List.length_nil]; omega), show gAt [a, b, c] 2 = some c from rfl, bnd_pure, gApC_ok (by rw [List.length_append]; omega), bnd_pure, gI_ok (by omega), bnd_pure]
      rfl
    · show slices_Concat_edit_Step_l2 [a, b, c] ((a.length : Int) + (b.length : Int) + (c.length : Int)).toNat next 3 (a ++ b ++ c) = _
      unfold slices_Concat_edit_Step_l2
      rw [cnd_if, if_neg (by simp only [List.length_cons, List.length_nil]; omega)]

def outM (conf : Bool) (l : List T_edit_Step) : List T_edit_Step × Bool × Int := if 50 < l.length then ([], false, 4) else (l, conf, 0)

theorem j1_eq (conf : Bool) (l : List T_edit_Step) : edit_Merge_j1 conf l = some (outM conf l) := by
  unfold edit_Merge_j1 outM slices_Clone_edit_Step
  rw [cnd_if]
  by_cases h : 50 < l.length
  · rw [if_pos (by omega), if_pos h]
  · rw [if_neg (by omega), if_neg h, gApp_ok (by simp only [List.length_nil]; omega), bnd_pure, bnd_pure, List.nil_append]


end Go.M
