/- Recipes merged; the law EditMerges, in plain Lean. Conditions: none. -/
import Derived.Test.YtinpjnlocahjjaaDoorEeV
namespace Go.M
open Go.Md Go.Pl

theorem eq_step {x y : T_edit_Step} : eq_edit_Step x y = true ↔ x = y := by
  cases x; cases y; simp [eq_edit_Step]
theorem ne_step {x y : T_edit_Step} (h : x ≠ y) : eq_edit_Step x y = false := by
  cases hb : eq_edit_Step x y
  · rfl
  · exact absurd (eq_step.1 hb) h

open Classical in
/-- With how many equal steps two recipes begin. -/
noncomputable def comN : List T_edit_Step → List T_edit_Step → Nat
  | x :: a, y :: b => if x = y then comN a b + 1 else 0
  | _, _ => 0

theorem comN_le : ∀ (a b : List T_edit_Step), comN a b ≤ a.length ∧ comN a b ≤ b.length
  | [], b => by simp [comN]
  | x :: a, [] => by simp [comN]
  | x :: a, y :: b => by
    have := comN_le a b
    unfold comN
    split <;> simp <;> omega
theorem comN_take : ∀ (a b : List T_edit_Step) (k : Nat), k ≤ comN a b → a.take k = b.take k
  | [], b, k, h => by have := comN_le [] b; simp at this; have : k = 0 := by omega
                      subst this; simp
  | x :: a, [], k, h => by have := comN_le (x :: a) []; simp at this; have : k = 0 := by omega
                           subst this; simp
  | x :: a, y :: b, 0, _ => by simp
  | x :: a, y :: b, k + 1, h => by
    unfold comN at h
    split at h
    · rename_i hxy; subst hxy
      rw [List.take_succ_cons, List.take_succ_cons, comN_take a b k (by omega)]
    · omega
theorem comN_self : ∀ a : List T_edit_Step, comN a a = a.length
  | [] => by simp [comN]
  | x :: a => by unfold comN; rw [if_pos rfl, comN_self a]; rfl
theorem comN_symm : ∀ a b : List T_edit_Step, comN a b = comN b a
  | [], [] => rfl
  | [], y :: b => by simp [comN]
  | x :: a, [] => by simp [comN]
  | x :: a, y :: b => by
    unfold comN
    by_cases h : x = y
    · rw [if_pos h, if_pos h.symm, comN_symm a b]
    · rw [if_neg h, if_neg fun e => h e.symm]
theorem comN_pre : ∀ (a b : List T_edit_Step), comN a b = a.length → a = b.take a.length
  | a, b, h => by
    have := comN_take a b a.length (by omega)
    rwa [List.take_length] at this
theorem comN_app : ∀ (a x : List T_edit_Step), comN a (a ++ x) = a.length
  | [], x => by simp [comN]
  | s :: a, x => by
    show comN (s :: a) (s :: (a ++ x)) = _
    unfold comN; rw [if_pos rfl, comN_app a x]; rfl

theorem Common_eq (a b : List T_edit_Step) (ha : a.length ≤ 1000000) : edit_Common a b = some ((comN a b : Nat) : Int) := by
  unfold edit_Common
  have key := fix_of (F := fun next1 s => edit_Common_l1 a b next1 s) (fun i => some (i + (comN (a.drop i.toNat) (b.drop i.toNat) : Nat))) (fun i => 0 ≤ i ∧ i ≤ a.length) (fun i => a.length - i.toNat) (by
    rintro next i ⟨g0, g1⟩ ih
    obtain ⟨k, rfl⟩ := Int.eq_ofNat_of_zero_le g0
    show edit_Common_l1 a b next (k : Int) = _
    unfold edit_Common_l1
    rw [Int.toNat_natCast, cnd_if]
    by_cases h1 : k < a.length
    · rw [if_pos (by omega), cnd_if]
      by_cases h2 : k < b.length
      · rw [if_pos (by omega), gAt_nat h1, bnd_pure, gAt_nat h2, bnd_pure, List.drop_eq_getElem_cons h1, List.drop_eq_getElem_cons h2]
        unfold comN
        by_cases h : a[k] = b[k]
        · rw [eq_step.2 h, cnd_true, if_pos h, gI_ok (by omega), bnd_pure, ih _ ⟨by omega, by omega⟩ (by omega)]
          rw [show ((k : Int) + 1).toNat = k + 1 from by omega]
          congr 1
          omega
        · rw [ne_step h, cnd_false, if_neg h]; simp
      · rw [if_neg (by omega), List.drop_of_length_le (l := b) (by omega)]
        have : comN (a.drop k) [] = 0 := by cases a.drop k <;> simp [comN]
        rw [this]; simp
    · rw [if_neg (by omega), List.drop_of_length_le (l := a) (by omega)]
      have : comN [] (b.drop k) = 0 := by simp [comN]
      rw [this]; simp) 0 ⟨by simp, by simp⟩
  rw [key]; simp

theorem Same_ex (a b : List T_edit_Step) (ha : a.length ≤ 1000000) : ∃ c, edit_Same a b = some c ∧ (c = true ↔ a = b) := by
  unfold edit_Same slices_Equal_edit_Step
  rw [cnd_if]
  by_cases hl : a.length = b.length
  · rw [if_neg (by omega)]
    have key := fix_of (F := fun next1 s => slices_Equal_edit_Step_l1 a b next1 s) (fun i => some (open Classical in decide (a.drop i.toNat = b.drop i.toNat))) (fun i => 0 ≤ i ∧ i ≤ a.length) (fun i => a.length - i.toNat) (by
      rintro next i ⟨g0, g1⟩ ih
      obtain ⟨k, rfl⟩ := Int.eq_ofNat_of_zero_le g0
      show slices_Equal_edit_Step_l1 a b next (k : Int) = _
      unfold slices_Equal_edit_Step_l1
      rw [Int.toNat_natCast, cnd_if]
      by_cases h1 : k < a.length
      · have h2 : k < b.length := by omega
        rw [if_pos (by omega), gAt_nat h1, bnd_pure, gAt_nat h2, bnd_pure, List.drop_eq_getElem_cons h1, List.drop_eq_getElem_cons h2]
        by_cases h : a[k] = b[k]
        · rw [eq_step.2 h, Bool.not_true, cnd_false, gI_ok (by omega), bnd_pure, ih _ ⟨by omega, by omega⟩ (by omega)]
          rw [show ((k : Int) + 1).toNat = k + 1 from by omega, h]
          exact congrArg some (decide_eq_decide.2 ⟨fun e => by rw [e], fun e => (List.cons.inj e).2⟩)
        · rw [ne_step h, Bool.not_false, cnd_true]
          exact congrArg some (decide_eq_false_iff_not.2 (fun e => h (List.cons.inj e).1)).symm
      · rw [if_neg (by omega), List.drop_of_length_le (l := a) (by omega), List.drop_of_length_le (l := b) (by omega)]
        simp) 0 ⟨by simp, by simp⟩
    rw [key, bnd_pure]
    exact ⟨_, rfl, by simp⟩
  · rw [if_pos (by omega), bnd_pure]
    exact ⟨false, rfl, by simp; exact fun h => hl (by rw [h])⟩

theorem Same_t {a b : List T_edit_Step} (ha : a.length ≤ 1000000) (h : a = b) : edit_Same a b = some true := by
  obtain ⟨c, h1, h2⟩ := Same_ex a b ha
  rw [h1, h2.2 h]
theorem Same_f {a b : List T_edit_Step} (ha : a.length ≤ 1000000) (h : a ≠ b) : edit_Same a b = some false := by
  obtain ⟨c, h1, h2⟩ := Same_ex a b ha
  cases c with
  | true => exact absurd (h2.1 rfl) h
  | false => exact h1

theorem checkAll3 (a b c : List T_edit_Step) : edit_checkAll [a, b, c] = some (if stepsE a ≠ 0 then stepsE a else if stepsE b ≠ 0 then stepsE b else stepsE c) := by
  unfold edit_checkAll
  have st : ∀ (k : Nat) (l : List T_edit_Step) (next : Int → Option Int), gAt [a, b, c] (k : Int) = some l → k < 3 → edit_checkAll_l1 [a, b, c] next (k : Int) = if stepsE l ≠ 0 then some (stepsE l) else next ((k : Int) + 1) := fun k l next hg hk => by
    unfold edit_checkAll_l1
    rw [cnd_if, if_pos (by simp only [List.length_cons, List.length_nil]; omega), hg, bnd_pure, Check_eq, bnd_pure, cnd_if]
    split
    · rfl
    · rw [gI_ok (by omega), bnd_pure]
  by_cases h0 : stepsE a ≠ 0
  · rw [if_pos h0]
    exact fix_done fun next => (st 0 a next rfl (by omega)).trans (if_pos h0)
  rw [if_neg h0]
  refine (fix_goto (F := fun next1 s => edit_checkAll_l1 [a, b, c] next1 s) 1 fun next => (st 0 a next rfl (by omega)).trans (if_neg h0)).trans ?_
  by_cases h1 : stepsE b ≠ 0
  · rw [if_pos h1]
    exact fix_done fun next => (st 1 b next rfl (by omega)).trans (if_pos h1)
  rw [if_neg h1]
  refine (fix_goto (F := fun next1 s => edit_checkAll_l1 [a, b, c] next1 s) 2 fun next => (st 1 b next rfl (by omega)).trans (if_neg h1)).trans ?_
  by_cases h2 : stepsE c ≠ 0
  · exact fix_done fun next => (st 2 c next rfl (by omega)).trans (if_pos h2)
  · refine (fix_goto (F := fun next1 s => edit_checkAll_l1 [a, b, c] next1 s) 3 fun next => (st 2 c next rfl (by omega)).trans (if_neg h2)).trans ?_
    have : stepsE c = 0 := by omega
    rw [this]
    exact fix_done fun next => rfl

theorem Concat3 (a b c : List T_edit_Step) (ha : a.length + b.length + c.length ≤ 1000000) : slices_Concat_edit_Step [a, b, c] = some (a ++ b ++ c) := by
  unfold slices_Concat_edit_Step
  refine (fix_goto (F := fun next3 s => slices_Concat_edit_Step_l3 [a, b, c] next3 s.1 s.2) ((a.length : Int), 1) fun next => ?_).trans ((fix_goto (F := fun next3 s => slices_Concat_edit_Step_l3 [a, b, c] next3 s.1 s.2) ((a.length : Int) + (b.length : Int), 2) fun next => ?_).trans ((fix_goto (F := fun next3 s => slices_Concat_edit_Step_l3 [a, b, c] next3 s.1 s.2) ((a.length : Int) + (b.length : Int) + (c.length : Int), 3) fun next => ?_).trans (fix_done fun next => ?_)))
  · show slices_Concat_edit_Step_l3 [a, b, c] next 0 0 = _
    unfold slices_Concat_edit_Step_l3
    rw [cnd_if, if_pos (by simp only [List.length_cons, List.length_nil]; omega), show gAt [a, b, c] 0 = some a from rfl, bnd_pure, gI_ok (by omega), bnd_pure, cnd_if, if_neg (by omega), gI_ok (by omega), bnd_pure]
    simp
  · show slices_Concat_edit_Step_l3 [a, b, c] next (a.length : Int) 1 = _
    unfold slices_Concat_edit_Step_l3
    rw [cnd_if, if_pos (by simp only [List.length_cons, List.length_nil]; omega), show gAt [a, b, c] 1 = some b from rfl, bnd_pure, gI_ok (by omega), bnd_pure, cnd_if, if_neg (by omega), gI_ok (by omega), bnd_pure]
    rfl
  · show slices_Concat_edit_Step_l3 [a, b, c] next ((a.length : Int) + (b.length : Int)) 2 = _
    unfold slices_Concat_edit_Step_l3
    rw [cnd_if, if_pos (by simp only [List.length_cons, List.length_nil]; omega), show gAt [a, b, c] 2 = some c from rfl, bnd_pure, gI_ok (by omega), bnd_pure, cnd_if, if_neg (by omega), gI_ok (by omega), bnd_pure]
    rfl
  · show slices_Concat_edit_Step_l3 [a, b, c] next ((a.length : Int) + (b.length : Int) + (c.length : Int)) 3 = _
    unfold slices_Concat_edit_Step_l3
    rw [cnd_if, if_neg (by simp only [List.length_cons, List.length_nil]; omega)]
    unfold slices_Concat_edit_Step_j1
    rw [gGrow_ok (by omega), bnd_pure]
    refine (fix_goto (F := fun next2 s => slices_Concat_edit_Step_l2 [a, b, c] next2 s.1 s.2) (1, a) fun next => ?_).trans ((fix_goto (F := fun next2 s => slices_Concat_edit_Step_l2 [a, b, c] next2 s.1 s.2) (2, a ++ b) fun next => ?_).trans ((fix_goto (F := fun next2 s => slices_Concat_edit_Step_l2 [a, b, c] next2 s.1 s.2) (3, a ++ b ++ c) fun next => ?_).trans (fix_done fun next => ?_)))
    · show slices_Concat_edit_Step_l2 [a, b, c] next 0 [] = _
      unfold slices_Concat_edit_Step_l2
      rw [cnd_if, if_pos (by simp only [List.length_cons, List.length_nil]; omega), show gAt [a, b, c] 0 = some a from rfl, bnd_pure, gApp_ok (by simp only [List.length_nil]; omega), bnd_pure, gI_ok (by omega), bnd_pure]
      rfl
    · show slices_Concat_edit_Step_l2 [a, b, c] next 1 a = _
      unfold slices_Concat_edit_Step_l2
      rw [cnd_if, if_pos (by simp only [List.length_cons, List.length_nil]; omega), show gAt [a, b, c] 1 = some b from rfl, bnd_pure, gApp_ok (by omega), bnd_pure, gI_ok (by omega), bnd_pure]
      rfl
    · show slices_Concat_edit_Step_l2 [a, b, c] next 2 (a ++ b) = _
      unfold slices_Concat_edit_Step_l2
      rw [cnd_if, if_pos (by simp only [List.length_cons, List.length_nil]; omega), show gAt [a, b, c] 2 = some c from rfl, bnd_pure, gApp_ok (by rw [List.length_append]; omega), bnd_pure, gI_ok (by omega), bnd_pure]
      rfl
    · show slices_Concat_edit_Step_l2 [a, b, c] next 3 (a ++ b ++ c) = _
      unfold slices_Concat_edit_Step_l2
      rw [cnd_if, if_neg (by simp only [List.length_cons, List.length_nil]; omega)]

def outM (conf : Bool) (l : List T_edit_Step) : List T_edit_Step × Bool × Int := if 50 < l.length then ([], false, 4) else (l, conf, 0)

theorem j1_eq (conf : Bool) (l : List T_edit_Step) : edit_Merge_j1 conf l = some (outM conf l) := by
  unfold edit_Merge_j1 outM slices_Clone_edit_Step
  rw [cnd_if]
  by_cases h : 50 < l.length
  · rw [if_pos (by omega), if_pos h]
  · rw [if_neg (by omega), if_neg h, gApp_ok (by simp only [List.length_nil]; omega), bnd_pure, bnd_pure, List.nil_append]

/-- What Merge yields of recipes that are right. -/
theorem Merge_cases {base a b : List T_edit_Step} (h0 : stepsE base = 0) (h1 : stepsE a = 0) (h2 : stepsE b = 0) :
    (a = base ∧ edit_Merge base a b = some (b, false, 0)) ∨ (a ≠ base ∧ (b = base ∨ a = b) ∧ edit_Merge base a b = some (a, false, 0)) ∨
    (a ≠ base ∧ b ≠ base ∧ a ≠ b ∧ ((∃ x y, a = base ++ x ∧ b = base ++ y ∧ edit_Merge base a b = some (outM false (base ++ x ++ y))) ∨ edit_Merge base a b = some (a, true, 0))) := by
  have l0 := (stepsE_ok h0).1
  have l1 := (stepsE_ok h1).1
  have l2 := (stepsE_ok h2).1
  have ca := comN_le base a
  have cb := comN_le base b
  obtain ⟨n, hn⟩ : ∃ n : Nat, n = min (comN base a) (comN base b) := ⟨_, rfl⟩
  have n1 : n ≤ comN base a := by omega
  have n2 : n ≤ comN base b := by omega
  have ta := comN_take base a n n1
  have tb := comN_take base b n n2
  have ea : ∀ c : List T_edit_Step, base.take n = c.take n → (c.drop n = base.drop n ↔ c = base) := fun c hc => ⟨fun h => by rw [← List.take_append_drop n c, ← List.take_append_drop n base, h, hc], fun h => by rw [h]⟩
  have eab : a.drop n = b.drop n ↔ a = b := ⟨fun h => by rw [← List.take_append_drop n a, ← List.take_append_drop n b, h, ← ta, ← tb], fun h => by rw [h]⟩
  have ok : ∀ (conf : Bool) (l : List T_edit_Step), l.length ≤ 50 → outM conf l = (l, conf, 0) := fun conf l hl => by unfold outM; rw [if_neg (by omega)]
  have hM : ∀ r, (cnd (decide ((0 : Int) ≠ 0)) (some (([] : List T_edit_Step), false, (0 : Int))) r) = r := fun r => by rw [cnd_if, if_neg (by simp)]
  unfold edit_Merge
  rw [checkAll3, h0, h1, h2, if_neg (by simp), if_neg (by simp), bnd_pure, hM, Common_eq _ _ (by omega), bnd_pure, Common_eq _ _ (by omega), bnd_pure]
  rw [show min ((comN base a : Nat) : Int) ((comN base b : Nat) : Int) = (n : Int) from by omega]
  rw [gCut_from (by omega), bnd_pure, gCut_from (by omega), bnd_pure, gCut_from (by omega), bnd_pure, Int.toNat_natCast]
  by_cases c1 : a = base
  · refine .inl ⟨c1, ?_⟩
    rw [Same_t (by rw [List.length_drop]; omega) ((ea a ta).2 c1), bnd_pure, cnd_true, j1_eq, ok _ _ (by omega)]
  rw [Same_f (by rw [List.length_drop]; omega) (fun h => c1 ((ea a ta).1 h)), bnd_pure, cnd_false]
  by_cases c2 : b = base
  · refine .inr (.inl ⟨c1, .inl c2, ?_⟩)
    rw [Same_t (by rw [List.length_drop]; omega) ((ea b tb).2 c2), bnd_pure, cnd_true, j1_eq, ok _ _ (by omega)]
  rw [Same_f (by rw [List.length_drop]; omega) (fun h => c2 ((ea b tb).1 h)), bnd_pure, cnd_false]
  by_cases c3 : a = b
  · refine .inr (.inl ⟨c1, .inr c3, ?_⟩)
    rw [Same_t (by rw [List.length_drop]; omega) (eab.2 c3), bnd_pure, cnd_true, j1_eq, ok _ _ (by omega)]
  rw [Same_f (by rw [List.length_drop]; omega) (fun h => c3 (eab.1 h)), bnd_pure, cnd_false]
  refine .inr (.inr ⟨c1, c2, c3, ?_⟩)
  rw [cnd_if]
  by_cases hz : (base.drop n).length = 0
  · rw [if_pos (by omega), Concat2 _ _ (by rw [List.length_drop, List.length_drop]; omega), bnd_pure, ContainsFunc_eq _ _ (fun s => decide (shapeK s)) (by rw [List.length_append, List.length_drop, List.length_drop]; omega) (fun s _ => Shape_eq s), bnd_pure]
    have hn0 : base.length ≤ n := by rw [List.length_drop] at hz; omega
    have tn : base.take n = base := List.take_of_length_le hn0
    cases hb : (a.drop n ++ b.drop n).any fun s => decide (shapeK s) with
    | true => rw [Bool.not_true, cnd_false, j1_eq, ok _ _ (by omega)]; exact .inr rfl
    | false =>
      rw [Bool.not_false, cnd_true, gCut_to (by omega), bnd_pure, Int.toNat_natCast, Concat3 _ _ _ (by rw [List.length_take, List.length_drop, List.length_drop]; omega), bnd_pure, j1_eq, tn]
      refine .inl ⟨a.drop n, b.drop n, ?_, ?_, rfl⟩
      · have := List.take_append_drop n a
        rw [← ta, tn] at this; exact this.symm
      · have := List.take_append_drop n b
        rw [← tb, tn] at this; exact this.symm
  · rw [if_neg (by omega), j1_eq, ok _ _ (by omega)]; exact .inr rfl

theorem Contains_mem {l : List T_edit_Step} {s : T_edit_Step} (hl : l.length ≤ 1000000) (hs : s ∈ l) : slices_Contains_edit_Step l s = some true := by
  have key : ∀ n k, l.length - k = n → k ≤ l.length → s ∈ l.drop k → ∃ i : Int, 0 ≤ i ∧ fix (fun next1 s_ => slices_Index_edit_Step_l1 l s next1 s_) (k : Int) = some i := by
    intro n
    induction n with
    | zero =>
      intro k h1 h2 h3
      rw [List.drop_of_length_le (by omega)] at h3; cases h3
    | succ n ih =>
      intro k h1 h2 h3
      have hk : k < l.length := by omega
      rw [List.drop_eq_getElem_cons hk] at h3
      have st : ∀ next, slices_Index_edit_Step_l1 l s next (k : Int) = cnd (eq_edit_Step s l[k]) (some (k : Int)) (next ((k : Int) + 1)) := fun next => by
        unfold slices_Index_edit_Step_l1
        rw [cnd_if, if_pos (by omega), gAt_nat hk, bnd_pure, gI_ok (by omega), bnd_pure]
      by_cases h : s = l[k]
      · exact ⟨k, by omega, fix_done fun next => (st next).trans (by rw [eq_step.2 h, cnd_true])⟩
      · obtain ⟨i, hi, e⟩ := ih (k + 1) (by omega) (by omega) ((List.mem_cons.1 h3).resolve_left h)
        refine ⟨i, hi, (fix_goto _ fun next => (st next).trans (by rw [ne_step h, cnd_false])).trans ?_⟩
        exact e
  obtain ⟨i, hi, e⟩ := key l.length 0 (by omega) (by omega) (by simpa using hs)
  unfold slices_Contains_edit_Step slices_Index_edit_Step
  rw [show fix (fun next1 s_ => slices_Index_edit_Step_l1 l s next1 s_) 0 = some i from e, bnd_pure, decide_eq_true hi]

/-- What the last loops ask. -/
theorem merges_fin (base : List T_edit_Step) {a b m : List T_edit_Step} {clash : Bool} {e : Int} (lm : m.length ≤ 50) (hc : clash = true → m = a) (next : Int → Option Bool) : Keep_EditMerges_l2 base a b (m, clash, e) next 2 = some true := by
  unfold Keep_EditMerges_l2 Keep_EditMerges_j1
  rw [cnd_if, if_neg (by omega)]
  cases hcl : clash with
  | false => rfl
  | true => simp only [Bool.not_true, cnd_false]; rw [Same_t (by omega) (hc hcl), bnd_pure]

theorem merges_go {m D : List T_edit_Step} {clash : Bool} {e : Int} (lm : m.length ≤ 50) (hDl : D.length ≤ 50) (hx : clash = false → ∀ s ∈ D, s ∈ m) {k : Nat} (next next4 : Int → Option Bool) {i : Nat} (hi : i < D.length) :
    Keep_EditMerges_l4 (m, clash, e) (k : Int) next D next4 (i : Int) = next4 ((i : Int) + 1) := by
  unfold Keep_EditMerges_l4
  rw [cnd_if, if_pos (by omega), gAt_nat hi, bnd_pure]
  have j5 : Keep_EditMerges_j5 (i : Int) next4 = next4 ((i : Int) + 1) := by
    unfold Keep_EditMerges_j5
    rw [gI_ok (by omega), bnd_pure]
  rw [j5]
  cases clash with
  | true => rfl
  | false =>
    rw [show (!((m, false, e) : List T_edit_Step × Bool × Int).2.1) = true from rfl, cnd_true]
    rw [Contains_mem (by show m.length ≤ _; omega) (hx rfl _ (List.getElem_mem hi)), bnd_pure, Bool.not_true, cnd_false]

theorem merges_stop {m D : List T_edit_Step} {clash : Bool} {e : Int} {k : Nat} (hk : k < 2) (next next4 : Int → Option Bool) : Keep_EditMerges_l4 (m, clash, e) (k : Int) next D next4 (D.length : Int) = next ((k : Int) + 1) := by
  unfold Keep_EditMerges_l4 Keep_EditMerges_j3
  rw [cnd_if, if_neg (by omega), gI_ok (by omega), bnd_pure]

theorem merges_in {m D : List T_edit_Step} {clash : Bool} {e : Int} (lm : m.length ≤ 50) (hDl : D.length ≤ 50) (hx : clash = false → ∀ s ∈ D, s ∈ m) {k : Nat} (hk : k < 2) (next : Int → Option Bool) :
    fix (fun next4 s => Keep_EditMerges_l4 (m, clash, e) (k : Int) next D next4 s) 0 = next ((k : Int) + 1) := by
  refine fix_of (F := fun next4 s => Keep_EditMerges_l4 (m, clash, e) (k : Int) next D next4 s) (fun _ => next ((k : Int) + 1)) (fun i => 0 ≤ i ∧ i ≤ D.length) (fun i => D.length - i.toNat) ?_ 0 ⟨by omega, by omega⟩
  rintro next4 i ⟨g0, g1⟩ ih
  obtain ⟨i, rfl⟩ := Int.eq_ofNat_of_zero_le g0
  by_cases hi : i < D.length
  · exact (merges_go lm hDl hx next next4 hi).trans (ih _ ⟨by omega, by omega⟩ (by omega))
  · have : i = D.length := by omega
    subst this
    exact merges_stop hk next next4

theorem merges_mid {base a b m l : List T_edit_Step} {clash : Bool} {e : Int} (lm : m.length ≤ 50) {k : Nat} (hk : k < 2) (hg : gAt [a, b] (k : Int) = some l) (hl : l.length ≤ 50) (hx : clash = false → ∀ s ∈ l.drop (comN l base), s ∈ m) (next : Int → Option Bool) :
    Keep_EditMerges_l2 base a b (m, clash, e) next (k : Int) = next ((k : Int) + 1) := by
  have cl := comN_le l base
  unfold Keep_EditMerges_l2
  rw [cnd_if, if_pos (by omega), hg, bnd_pure, Common_eq _ _ (by omega), bnd_pure, gCut_from (by omega), bnd_pure, Int.toNat_natCast]
  exact merges_in lm (by rw [List.length_drop]; omega) hx hk next

theorem merges_end {base a b m : List T_edit_Step} {clash : Bool} {e : Int} (la : a.length ≤ 50) (lb : b.length ≤ 50) (lm : m.length ≤ 50) (hA : clash = false → ∀ s ∈ a.drop (comN a base), s ∈ m) (hB : clash = false → ∀ s ∈ b.drop (comN b base), s ∈ m) (hc : clash = true → m = a) :
    fix (fun next2 s => Keep_EditMerges_l2 base a b (m, clash, e) next2 s) 0 = some true :=
  (fix_goto (F := fun next2 s => Keep_EditMerges_l2 base a b (m, clash, e) next2 s) (a := 0) 1 fun next => merges_mid (k := 0) lm (by omega) rfl la hA next).trans
    ((fix_goto (F := fun next2 s => Keep_EditMerges_l2 base a b (m, clash, e) next2 s) (a := 1) 2 fun next => merges_mid (k := 1) lm (by omega) rfl lb hB next).trans (fix_done (merges_fin base lm hc)))

theorem editMergesS (base a b : List T_edit_Step) {φ1 φ2 φ3 : Prop} (_ : φ1) (_ : φ2) (_ : φ3) : Keep_EditMerges base a b = some true := by
  unfold Keep_EditMerges
  rw [awakeE, bnd_pure, Bool.not_true, cnd_false]
  by_cases h0 : stepsE base = 0 ∧ stepsE a = 0 ∧ stepsE b = 0
  · obtain ⟨h0, h1, h2⟩ := h0
    have l0 := (stepsE_ok h0).1
    have l1 := (stepsE_ok h1).1
    have l2 := (stepsE_ok h2).1
    have two : edit_Merge base a base = some (a, false, 0) := by
      rcases Merge_cases h0 h1 h0 with ⟨h, e⟩ | ⟨_, _, e⟩ | ⟨_, h, _⟩
      · rw [e, h]
      · exact e
      · exact absurd rfl h
    have three : edit_Merge base base b = some (b, false, 0) := by
      rcases Merge_cases h0 h0 h2 with ⟨_, e⟩ | ⟨h, _, _⟩ | ⟨h, _⟩
      · exact e
      · exact absurd rfl h
      · exact absurd rfl h
    have rest : ∀ m clash, (m.length ≤ 50) → (clash = false → ∀ s ∈ a.drop (comN a base), s ∈ m) → (clash = false → ∀ s ∈ b.drop (comN b base), s ∈ m) → (clash = true → m = a) → edit_Merge base a b = some (m, clash, 0) → (bnd (edit_Merge base a b) fun t27 =>
  cnd (decide (t27.2.2 ≠ 0)) (some true) (bnd (edit_Merge base a base) fun t37 =>
  cnd (decide (t37.2.2 ≠ 0)) (some false) (cnd t37.2.1 (some false) (bnd (edit_Same t37.1 a) fun t49 =>
  cnd (!t49) (some false) (bnd (edit_Merge base base b) fun t56 =>
  cnd (decide (t56.2.2 ≠ 0)) (some false) (cnd t56.2.1 (some false) (bnd (edit_Same t56.1 b) fun t68 =>
  cnd (!t68) (some false) (fix (fun next2 s => Keep_EditMerges_l2 base a b t27 next2 s) 0)))))))) = some true := by
      intro m clash lm hA hB hc e
      rw [e, bnd_pure]
      simp only
      rw [cnd_if, if_neg (by simp), two, bnd_pure]
      simp only
      rw [cnd_if, if_neg (by simp), cnd_false, Same_t (by omega) rfl, bnd_pure, Bool.not_true, cnd_false, three, bnd_pure]
      simp only
      rw [cnd_if, if_neg (by simp), cnd_false, Same_t (by omega) rfl, bnd_pure, Bool.not_true, cnd_false]
      exact merges_end l1 l2 lm hA hB hc
    have selfD : ∀ l : List T_edit_Step, l.drop (comN l l) = [] := fun l => by rw [comN_self, List.drop_length]
    rcases Merge_cases h0 h1 h2 with ⟨h, e⟩ | ⟨_, h, e⟩ | ⟨_, _, _, h⟩
    · refine rest b false l2 (fun _ s hs => ?_) (fun _ s hs => List.mem_of_mem_drop hs) (fun h => by cases h) e
      rw [h, selfD] at hs; cases hs
    · refine rest a false l1 (fun _ s hs => List.mem_of_mem_drop hs) (fun _ s hs => ?_) (fun h => by cases h) e
      rcases h with h | h
      · rw [h, selfD] at hs; cases hs
      · rw [← h] at hs; exact List.mem_of_mem_drop hs
    · rcases h with ⟨x, y, ha, hb, e⟩ | e
      · unfold outM at e
        by_cases hlen : 50 < (base ++ x ++ y).length
        · rw [if_pos hlen] at e
          rw [e, bnd_pure]
          simp only
          rw [cnd_if, if_pos (by simp)]
        · rw [if_neg hlen] at e
          refine rest _ false (by omega) (fun _ s hs => ?_) (fun _ s hs => ?_) (fun h => by cases h) e
          · rw [ha, comN_symm, comN_app, List.drop_left] at hs
            simp [hs]
          · rw [hb, comN_symm, comN_app, List.drop_left] at hs
            simp [hs]
      · exact rest a true l1 (fun h => by cases h) (fun h => by cases h) (fun _ => rfl) e
  · unfold edit_Merge
    rw [checkAll3, bnd_pure]
    have hne : (if stepsE base ≠ 0 then stepsE base else if stepsE a ≠ 0 then stepsE a else stepsE b) ≠ 0 := by
      split
      · assumption
      · split
        · assumption
        · intro h; exact h0 ⟨by omega, by omega, h⟩
    generalize (if stepsE base ≠ 0 then stepsE base else if stepsE a ≠ 0 then stepsE a else stepsE b) = e at hne
    rw [cnd_if, if_pos hne, bnd_pure]
    simp only
    rw [cnd_if, if_pos hne]

end Go.M
