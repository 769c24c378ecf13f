/- Looks, differences and merges of recipes; the law EditOthers, in plain Lean. Conditions: none. -/
import Derived.Test.YtilhbkglchppjaaDoorEoX
namespace Go.M
open Go.Md Go.Pl

theorem fst_two (a b : Int) : Law_first [a, b] = some (if a ≠ 0 then a else b) := by
  unfold Law_first
  have st : ∀ (k : Nat) (l : Int) (next : Int → Option Int), gAt [a, b] (k : Int) = some l → k < 2 → Law_first_l1 [a, b] next (k : Int) = if l ≠ 0 then some l else next ((k : Int) + 1) := fun k l next hg hk => by
    unfold Law_first_l1
    rw [cnd_if, if_pos (by simp only [List.length_cons, List.length_nil]; omega), hg, bnd_pure, cnd_if]
    split
    · rfl
    · rw [gI_ok (by omega), bnd_pure]
  by_cases h0 : a ≠ 0
  · rw [if_pos h0]
    exact fix_done fun next => (st 0 a next rfl (by omega)).trans (if_pos h0)
  rw [if_neg h0]
  refine (fix_goto (F := fun next1 s => Law_first_l1 [a, b] next1 s) 1 fun next => (st 0 a next rfl (by omega)).trans (if_neg h0)).trans ?_
  by_cases h1 : b ≠ 0
  · exact fix_done fun next => (st 1 b next rfl (by omega)).trans (if_pos h1)
  · refine (fix_goto (F := fun next1 s => Law_first_l1 [a, b] next1 s) 2 fun next => (st 1 b next rfl (by omega)).trans (if_neg h1)).trans ?_
    have : b = 0 := by omega
    rw [this]
    exact fix_done fun next => rfl
def fst2 (a b : Int) : Int := if a ≠ 0 then a else b
theorem fst2_zero {a b : Int} (h : fst2 a b = 0) : a = 0 ∧ b = 0 := by unfold fst2 at h; split at h <;> omega

theorem checkAll2 (a b : List T_edit_Step) : edit_checkAll [a, b] = some (fst2 (stepsE a) (stepsE b)) := by
  unfold edit_checkAll fst2
  have st : ∀ (k : Nat) (l : List T_edit_Step) (next : Int → Option Int), gAt [a, b] (k : Int) = some l → k < 2 → edit_checkAll_l1 [a, b] next (k : Int) = if stepsE l ≠ 0 then some (stepsE l) else next ((k : Int) + 1) := fun k l next hg hk => by
    unfold edit_checkAll_l1
    rw [cnd_if, if_pos (by simp only [List.length_cons, List.length_nil]; omega), hg, bnd_pure, Check_eq, bnd_pure, cnd_if]
    split
    · rfl
    · rw [gI_ok (by omega), bnd_pure]
  by_cases h0 : stepsE a ≠ 0
  · rw [if_pos h0]
    exact fix_done fun next => (st 0 a next rfl (by omega)).trans (if_pos h0)
  rw [if_neg h0]
  refine (fix_goto (F := fun next1 s => edit_checkAll_l1 [a, b] next1 s) 1 fun next => (st 0 a next rfl (by omega)).trans (if_neg h0)).trans ?_
  by_cases h1 : stepsE b ≠ 0
  · exact fix_done fun next => (st 1 b next rfl (by omega)).trans (if_pos h1)
  · refine (fix_goto (F := fun next1 s => edit_checkAll_l1 [a, b] next1 s) 2 fun next => (st 1 b next rfl (by omega)).trans (if_neg h1)).trans ?_
    have : stepsE b = 0 := by omega
    rw [this]
    exact fix_done fun next => rfl

/-! ### parts, common steps -/

theorem Parted_ap (l : List T_edit_Step) (hl : l.length ≤ 3518437208780) : R_Parted l = some (shapes l, tones l) := by
  rw [← apart_eq l hl]
  unfold R_Parted edit_apart
  refine congrFun (fix_congr fun next s => ?_) _
  show R_Parted_l2 l next s.1 s.2.1 s.2.2 = edit_apart_l2 l next s.1 s.2.1 s.2.2
  unfold R_Parted_l2 edit_apart_l2
  refine cnd_congr (fun _ => ?_) (fun _ => rfl)
  refine bnd_congr fun t _ => ?_
  rw [Shaped_eq, Shape_eq, bnd_pure, bnd_pure]
  rfl
theorem CommonOf_eq (a b : List T_edit_Step) (ha : a.length ≤ 3518437208780) : R_CommonOf a b = some ((comN a b : Nat) : Int) := Common_eq a b ha

theorem comN_tri : ∀ (o a b : List T_edit_Step), min (comN o a) (comN o b) ≤ comN a b
  | [], a, b => by simp [comN]
  | o :: os, [], b => by simp [comN]
  | o :: os, a :: as, [] => by simp [comN]
  | o :: os, a :: as, b :: bs => by
    unfold comN
    by_cases h1 : o = a
    · by_cases h2 : o = b
      · rw [if_pos h1, if_pos h2, if_pos (h1.symm.trans h2)]
        have := comN_tri os as bs
        omega
      · rw [if_neg h2]; omega
    · rw [if_neg h1]; omega

/-! ### equal lists -/

theorem eqSteps (l : List T_edit_Step) (hl : l.length ≤ 9000000000000000) : slices_Equal_edit_Step l l = some true := by
  unfold slices_Equal_edit_Step
  rw [cnd_if, if_neg (fun h => h rfl)]
  have key : ∀ m k : Nat, k + m = l.length → fix (fun next1 s => slices_Equal_edit_Step_l1 l l next1 s) (k : Int) = some true := by
    intro m
    induction m with
    | zero =>
      intro k hk
      refine fix_done fun next => ?_
      show slices_Equal_edit_Step_l1 l l next (k : Int) = _
      unfold slices_Equal_edit_Step_l1
      rw [cnd_if, if_neg (by omega)]
    | succ m ih =>
      intro k hk
      rw [fix_goto (b := ((k + 1 : Nat) : Int)) fun next => ?_]
      · exact ih (k + 1) (by omega)
      · show slices_Equal_edit_Step_l1 l l next (k : Int) = _
        unfold slices_Equal_edit_Step_l1
        rw [cnd_if, if_pos (by omega), gAt_nat (by omega), bnd_pure, bnd_pure, eq_step.2 rfl, Bool.not_true, cnd_false, gI_ok (by omega), bnd_pure]; rfl
  exact key l.length 0 (by omega)
theorem eqStrs (l : List (List UInt8)) (hl : l.length ≤ 9000000000000000) : slices_Equal_string l l = some true := by
  unfold slices_Equal_string
  rw [cnd_if, if_neg (fun h => h rfl)]
  have key : ∀ m k : Nat, k + m = l.length → fix (fun next1 s => slices_Equal_string_l1 l l next1 s) (k : Int) = some true := by
    intro m
    induction m with
    | zero =>
      intro k hk
      refine fix_done fun next => ?_
      show slices_Equal_string_l1 l l next (k : Int) = _
      unfold slices_Equal_string_l1
      rw [cnd_if, if_neg (by omega)]
    | succ m ih =>
      intro k hk
      rw [fix_goto (b := ((k + 1 : Nat) : Int)) fun next => ?_]
      · exact ih (k + 1) (by omega)
      · show slices_Equal_string_l1 l l next (k : Int) = _
        unfold slices_Equal_string_l1
        rw [cnd_if, if_pos (by omega), gAt_nat (by omega), bnd_pure, bnd_pure, cnd_if, if_neg (fun h => h rfl), gI_ok (by omega), bnd_pure]; rfl
  exact key l.length 0 (by omega)

theorem listedSteps {v w : List T_edit_Step} {e f : Int} (hl : v.length ≤ 9000000000000000) (h0 : f = 0 → v = w) (h1 : f ≠ 0 → v = []) (he : e = f) : Law_listed_edit_Step v e w f = some true := by
  subst he
  have key : Law_listed_edit_Step_j1 v e e v = some true := by
    unfold Law_listed_edit_Step_j1; rw [eqSteps v hl, bnd_pure, cnd_true]; simp
  unfold Law_listed_edit_Step
  rw [cnd_if]
  by_cases h : e ≠ 0
  · rw [if_pos h]; have := h1 h; subst this; exact key
  · rw [if_neg h, ← h0 (by simpa using h)]; exact key
theorem listedStrs {v w : List (List UInt8)} {e f : Int} (hl : v.length ≤ 9000000000000000) (h0 : f = 0 → v = w) (h1 : f ≠ 0 → v = []) (he : e = f) : Law_listed_string v e w f = some true := by
  subst he
  have key : Law_listed_string_j1 v e e v = some true := by
    unfold Law_listed_string_j1; rw [eqStrs v hl, bnd_pure, cnd_true]; simp
  unfold Law_listed_string
  rw [cnd_if]
  by_cases h : e ≠ 0
  · rw [if_pos h]; have := h1 h; subst this; exact key
  · rw [if_neg h, ← h0 (by simpa using h)]; exact key

/-! ### lines -/

/-- The words of numbers behind a word. -/
def addN (w : List UInt8) (ns : List Int) : List UInt8 := ns.foldl (fun w n => w ++ (32 :: itoaL n)) w
def small (n : Int) : Prop := -1000000 ≤ n ∧ n ≤ 1000000
theorem decD_len (u : Nat) (k : Nat) (h : u < 10 ^ (k + 1)) : (decD u).length ≤ k + 1 := by
  induction k generalizing u with
  | zero => rw [decD, if_pos (by omega)]; simp
  | succ k ih =>
    rw [decD]
    split
    · simp
    · have := ih (u / 10) (by rw [Nat.pow_succ] at h; omega)
      rw [List.length_append, List.length_singleton]; omega
theorem itoa_len {n : Int} (h : small n) : (itoaL n).length ≤ 9 := by
  unfold small at h
  unfold itoaL
  split
  · have := decD_len n.natAbs 7 (by show _ < 10 ^ 8; omega)
    rw [List.length_cons]; omega
  · have := decD_len n.toNat 7 (by show _ < 10 ^ 8; omega)
    omega
theorem addN_len (w : List UInt8) (ns : List Int) (h : ∀ n ∈ ns, small n) : (addN w ns).length ≤ w.length + 10 * ns.length := by
  induction ns generalizing w with
  | nil => simp [addN]
  | cons n ns ih =>
    have h1 := ih (w ++ (32 :: itoaL n)) (fun x hx => h x (by simp [hx]))
    have h2 := itoa_len (h n (by simp))
    unfold addN at h1 ⊢
    rw [List.foldl_cons]
    rw [List.length_append, List.length_cons] at h1
    rw [List.length_cons]; omega
theorem line_loop {F : ((List UInt8) × Int → Option (List UInt8)) → (List UInt8) × Int → Option (List UInt8)} (ns : List Int) (hs : ∀ n ∈ ns, small n) (hl : ns.length ≤ 10) (w : List UInt8) (hw : w.length ≤ 10)
    (step : ∀ next (k : Nat) (hk : k < ns.length) (x : List UInt8), F next (x, (k : Int)) = bnd (gItoa ns[k]) fun t => bnd (gCat [32] t) fun t2 => bnd (gCat x t2) fun t3 => bnd (gI ((k : Int) + 1)) fun t4 => next (t3, t4))
    (last : ∀ next x, F next (x, (ns.length : Int)) = some x) : fix F (w, 0) = some (addN w ns) := by
  have key : ∀ m k : Nat, k + m = ns.length → ∀ x : List UInt8, x.length ≤ 1000 * (k + 1) → fix F (x, (k : Int)) = some (addN x (ns.drop k)) := by
    intro m
    induction m with
    | zero =>
      intro k hk x _
      have : k = ns.length := by omega
      subst this
      rw [List.drop_length]
      exact fix_done fun next => last next x
    | succ m ih =>
      intro k hk x hx
      have hlt : k < ns.length := by omega
      have hsm := hs _ (List.getElem_mem hlt)
      have hil := itoa_len hsm
      rw [fix_goto (b := (x ++ (32 :: itoaL ns[k]), ((k + 1 : Nat) : Int))) fun next => ?_]
      · rw [ih (k + 1) (by omega) _ (by rw [List.length_append, List.length_cons]; omega), List.drop_eq_getElem_cons hlt]; rfl
      · rw [step next k hlt x]
        unfold gItoa
        unfold small at hsm
        rw [if_pos (by omega), bnd_pure, gCat_ok (by simp only [List.length_cons, List.length_nil]; omega), bnd_pure, gCat_ok (by simp only [List.length_append, List.length_cons, List.length_nil]; omega), bnd_pure, gI_ok (by omega), bnd_pure]
        rfl
  have := key ns.length 0 (by omega) w (by omega)
  simpa using this

def wordS (k : Int) : List UInt8 := if k = 1 then [116, 117, 114, 110] else if k = 2 then [99, 114, 111, 112] else if k = 3 then [115, 99, 97, 108, 101] else if k = 4 then [108, 105, 103, 104, 116] else if k = 5 then [115, 112, 114, 101, 97, 100] else if k = 6 then [108, 101, 118, 101, 108, 115] else if k = 7 then [119, 97, 114, 109] else if k = 8 then [109, 117, 116, 101] else [105, 110, 118, 101, 114, 116]
def lineS (s : T_edit_Step) : List UInt8 := addN (wordS s.Kind) ([s.A, s.B, s.C, s.D].take (usedS s.Kind))
theorem nine {k : Int} (h : 1 ≤ k ∧ k ≤ 9) : k = 1 ∨ k = 2 ∨ k = 3 ∨ k = 4 ∨ k = 5 ∨ k = 6 ∨ k = 7 ∨ k = 8 ∨ k = 9 := by omega
theorem word_len (k : Int) : (wordS k).length ≤ 10 := by unfold wordS; (repeat' split) <;> simp
theorem used_le (k : Int) : usedS k ≤ 4 := by unfold usedS; (repeat' split) <;> omega
theorem word_eq {k : Int} (h : 1 ≤ k ∧ k ≤ 9) : edit_word k = some (wordS k, (usedS k : Int)) := by
  rcases nine h with rfl | rfl | rfl | rfl | rfl | rfl | rfl | rfl | rfl <;> rfl

theorem nums_small {s : T_edit_Step} (h : stepE s = 0) : ∀ n ∈ [s.A, s.B, s.C, s.D].take (usedS s.Kind), small n := by
  have := stepE_nums h
  intro n hn
  have := List.mem_of_mem_take hn
  unfold small
  simp only [List.mem_cons, List.not_mem_nil, or_false] at this
  rcases this with rfl | rfl | rfl | rfl <;> omega
theorem take_le4 (a b c d : Int) (n : Nat) : (([a, b, c, d] : List Int).take n).length ≤ 4 := by rw [List.length_take]; simp; omega

theorem line_eq {s : T_edit_Step} (h : stepE s = 0) : edit_Step_line s = some (lineS s) := by
  have hk := (stepE_ok h).1
  unfold edit_Step_line edit_Step_numbers
  rw [word_eq hk, bnd_pure, bnd_pure, cut4t _ _ _ _ _ (used_le _), bnd_pure]
  have h4 := take_le4 s.A s.B s.C s.D (usedS s.Kind)
  exact line_loop _ (nums_small h) (by omega) _ (word_len _) (fun next k hk x => by
    show edit_Step_line_l1 _ next x (k : Int) = _
    unfold edit_Step_line_l1
    rw [cnd_if, if_pos (by omega), gAt_nat hk, bnd_pure]) (fun next x => by
    show edit_Step_line_l1 _ next x _ = _
    unfold edit_Step_line_l1
    rw [cnd_if, if_neg (by omega)])
theorem stepLine_eq {s : T_edit_Step} (h : stepE s = 0) : R_stepLine s = some (lineS s) := by
  have hk := (stepE_ok h).1
  unfold R_stepLine
  have e1 : R_stepWords = some [[], [116, 117, 114, 110], [99, 114, 111, 112], [115, 99, 97, 108, 101], [108, 105, 103, 104, 116], [115, 112, 114, 101, 97, 100], [108, 101, 118, 101, 108, 115], [119, 97, 114, 109], [109, 117, 116, 101], [105, 110, 118, 101, 114, 116]] := rfl
  have e2 : gAt ([[], [116, 117, 114, 110], [99, 114, 111, 112], [115, 99, 97, 108, 101], [108, 105, 103, 104, 116], [115, 112, 114, 101, 97, 100], [108, 101, 118, 101, 108, 115], [119, 97, 114, 109], [109, 117, 116, 101], [105, 110, 118, 101, 114, 116]] : List (List UInt8)) s.Kind = some (wordS s.Kind) := by
    rcases nine hk with e | e | e | e | e | e | e | e | e <;> rw [e] <;> rfl
  have e3 : R_numbersUsed s.Kind = some (usedS s.Kind : Int) := by
    rcases nine hk with e | e | e | e | e | e | e | e | e <;> rw [e] <;> rfl
  rw [e1, bnd_pure, e2, bnd_pure, e3, bnd_pure, cut4t _ _ _ _ _ (used_le _), bnd_pure]
  have h4 := take_le4 s.A s.B s.C s.D (usedS s.Kind)
  exact line_loop _ (nums_small h) (by omega) _ (word_len _) (fun next k hk x => by
    show R_stepLine_l1 _ next x (k : Int) = _
    unfold R_stepLine_l1
    rw [cnd_if, if_pos (by omega), gAt_nat hk, bnd_pure]) (fun next x => by
    show R_stepLine_l1 _ next x _ = _
    unfold R_stepLine_l1
    rw [cnd_if, if_neg (by omega)])
theorem lineS_len {s : T_edit_Step} (h : stepE s = 0) : (lineS s).length ≤ 100 := by
  have h1 := addN_len (wordS s.Kind) _ (nums_small h)
  have h2 := take_le4 s.A s.B s.C s.D (usedS s.Kind)
  have h3 := word_len s.Kind
  unfold lineS; omega

/-- A loop that puts the lines of steps behind a mark. -/
theorem put_loop {ρ : Type} {F : (Int × List (List UInt8) → Option ρ) → Int × List (List UInt8) → Option ρ} (pre : List UInt8) (hp : pre.length ≤ 10) (xs : List T_edit_Step) (hx : ∀ s ∈ xs, stepE s = 0) (hl : xs.length ≤ 50) (J : List (List UInt8) → Option ρ) (l0 : List (List UInt8)) (h0 : l0.length ≤ 50)
    (step : ∀ next (k : Nat) (hk : k < xs.length) l, stepE xs[k] = 0 → F next ((k : Int), l) = bnd (gCat pre (lineS xs[k])) fun t2 => bnd (gApp 16 l [t2]) fun t3 => bnd (gI ((k : Int) + 1)) fun t4 => next (t4, t3))
    (last : ∀ next l, F next ((xs.length : Int), l) = J l) : fix F (0, l0) = J (l0 ++ xs.map fun s => pre ++ lineS s) := by
  have key : ∀ m k : Nat, k + m = xs.length → ∀ l : List (List UInt8), l.length ≤ 50 + k → fix F ((k : Int), l) = J (l ++ (xs.drop k).map fun s => pre ++ lineS s) := by
    intro m
    induction m with
    | zero =>
      intro k hk l _
      have : k = xs.length := by omega
      subst this
      rw [List.drop_length, List.map_nil, List.append_nil]
      exact fix_done fun next => last next l
    | succ m ih =>
      intro k hk l hll
      have hlt : k < xs.length := by omega
      have hs := hx _ (List.getElem_mem hlt)
      have := lineS_len hs
      rw [fix_goto (b := (((k + 1 : Nat) : Int), l ++ [pre ++ lineS xs[k]])) fun next => ?_]
      · rw [ih (k + 1) (by omega) _ (by rw [List.length_append, List.length_singleton]; omega), List.drop_eq_getElem_cons hlt, List.map_cons, List.append_assoc]; rfl
      · rw [step next k hlt l hs, gCat_ok (by omega), bnd_pure, gApp_ok (by rw [List.length_singleton]; omega), bnd_pure, gI_ok (by omega), bnd_pure]; rfl
  have := key xs.length 0 (by omega) l0 (by omega)
  simpa using this

noncomputable def differS (a b : List T_edit_Step) : List (List UInt8) := ((a.drop (comN a b)).map fun s => [45, 32] ++ lineS s) ++ ((b.drop (comN a b)).map fun s => [43, 32] ++ lineS s)

theorem Differ_eq (a b : List T_edit_Step) : edit_Differ a b = some (if fst2 (stepsE a) (stepsE b) = 0 then differS a b else [], fst2 (stepsE a) (stepsE b)) := by
  unfold edit_Differ
  rw [checkAll2, bnd_pure, cnd_if]
  by_cases h : fst2 (stepsE a) (stepsE b) = 0
  · obtain ⟨h1, h2⟩ := fst2_zero h
    obtain ⟨la, oa⟩ := stepsE_ok h1
    obtain ⟨lb, ob⟩ := stepsE_ok h2
    have hc := comN_le a b
    rw [if_neg (by rw [h]; exact fun h => h rfl), if_pos h, Common_eq _ _ (by omega), bnd_pure, gCut_from (by omega), bnd_pure, Int.toNat_natCast, h]
    refine (put_loop (F := fun next4 s => edit_Differ_l4 b ((comN a b : Nat) : Int) (a.drop (comN a b)) next4 s.1 s.2) [45, 32] (by decide) (a.drop (comN a b)) (fun s hs => oa s (List.mem_of_mem_drop hs)) (by rw [List.length_drop]; omega) (fun l => edit_Differ_j1 b ((comN a b : Nat) : Int) l) [] (by simp) (fun next k hk l hs => ?_) (fun next l => ?_)).trans ?_
    · show edit_Differ_l4 b _ (a.drop (comN a b)) next (k : Int) l = _
      unfold edit_Differ_l4
      rw [cnd_if, if_pos (by omega), gAt_nat hk, bnd_pure, line_eq hs, bnd_pure]
    · show edit_Differ_l4 b _ (a.drop (comN a b)) next _ l = _
      unfold edit_Differ_l4
      rw [cnd_if, if_neg (by omega)]
    · unfold edit_Differ_j1
      rw [gCut_from (by omega), bnd_pure, Int.toNat_natCast]
      refine (put_loop (F := fun next3 s => edit_Differ_l3 (b.drop (comN a b)) next3 s.1 s.2) [43, 32] (by decide) (b.drop (comN a b)) (fun s hs => ob s (List.mem_of_mem_drop hs)) (by rw [List.length_drop]; omega) (fun l => some (l, 0)) _ (by simp; omega) (fun next k hk l hs => ?_) (fun next l => ?_)).trans ?_
      · show edit_Differ_l3 (b.drop (comN a b)) next (k : Int) l = _
        unfold edit_Differ_l3
        rw [cnd_if, if_pos (by omega), gAt_nat hk, bnd_pure, line_eq hs, bnd_pure]
      · show edit_Differ_l3 (b.drop (comN a b)) next _ l = _
        unfold edit_Differ_l3
        rw [cnd_if, if_neg (by omega)]; rfl
      · rw [List.nil_append]; rfl
  · rw [if_pos h, if_neg h]

theorem DifferOf_eq {a b : List T_edit_Step} (h : fst2 (stepsE a) (stepsE b) = 0) : R_DifferOf a b = some (differS a b) := by
  obtain ⟨h1, h2⟩ := fst2_zero h
  obtain ⟨la, oa⟩ := stepsE_ok h1
  obtain ⟨lb, ob⟩ := stepsE_ok h2
  have hc := comN_le a b
  unfold R_DifferOf
  rw [CommonOf_eq _ _ (by omega), bnd_pure, gCut_from (by omega), bnd_pure, Int.toNat_natCast]
  refine (put_loop (F := fun next3 s => R_DifferOf_l3 b ((comN a b : Nat) : Int) (a.drop (comN a b)) next3 s.1 s.2) [45, 32] (by decide) (a.drop (comN a b)) (fun s hs => oa s (List.mem_of_mem_drop hs)) (by rw [List.length_drop]; omega) (fun l => R_DifferOf_j1 b ((comN a b : Nat) : Int) l) [] (by simp) (fun next k hk l hs => ?_) (fun next l => ?_)).trans ?_
  · show R_DifferOf_l3 b _ (a.drop (comN a b)) next (k : Int) l = _
    unfold R_DifferOf_l3
    rw [cnd_if, if_pos (by omega), gAt_nat hk, bnd_pure, stepLine_eq hs, bnd_pure]
  · show R_DifferOf_l3 b _ (a.drop (comN a b)) next _ l = _
    unfold R_DifferOf_l3
    rw [cnd_if, if_neg (by omega)]
  · unfold R_DifferOf_j1
    rw [gCut_from (by omega), bnd_pure, Int.toNat_natCast]
    refine (put_loop (F := fun next2 s => R_DifferOf_l2 (b.drop (comN a b)) next2 s.1 s.2) [43, 32] (by decide) (b.drop (comN a b)) (fun s hs => ob s (List.mem_of_mem_drop hs)) (by rw [List.length_drop]; omega) (fun l => some l) _ (by simp; omega) (fun next k hk l hs => ?_) (fun next l => ?_)).trans ?_
    · show R_DifferOf_l2 (b.drop (comN a b)) next (k : Int) l = _
      unfold R_DifferOf_l2
      rw [cnd_if, if_pos (by omega), gAt_nat hk, bnd_pure, stepLine_eq hs, bnd_pure]
    · show R_DifferOf_l2 (b.drop (comN a b)) next _ l = _
      unfold R_DifferOf_l2
      rw [cnd_if, if_neg (by omega)]
    · rw [List.nil_append]; rfl

/-! ### looks -/

theorem Like_eq (a b : List T_edit_Step) : edit_Like a b = some (if fst2 (stepsE a) (stepsE b) = 0 ∧ (shapes b ++ tones a).length ≤ 50 then shapes b ++ tones a else [], if fst2 (stepsE a) (stepsE b) = 0 then (if (shapes b ++ tones a).length ≤ 50 then 0 else 4) else fst2 (stepsE a) (stepsE b)) := by
  unfold edit_Like
  rw [checkAll2, bnd_pure, cnd_if]
  by_cases h : fst2 (stepsE a) (stepsE b) = 0
  · obtain ⟨h1, h2⟩ := fst2_zero h
    have la := (stepsE_ok h1).1
    have lb := (stepsE_ok h2).1
    have pa := parts_len a
    have pb := parts_len b
    rw [if_neg (by rw [h]; exact fun h => h rfl), apart_eq a (by omega), bnd_pure, apart_eq b (by omega), bnd_pure]
    show bnd (slices_Concat_edit_Step [shapes b, tones a]) _ = _
    rw [Concat2 _ _ (by omega), bnd_pure, cnd_if]
    by_cases h50 : (shapes b ++ tones a).length ≤ 50
    · rw [if_neg (by omega), if_pos ⟨h, h50⟩, if_pos h, if_pos h50]
    · rw [if_pos (by omega), if_neg (fun e => h50 e.2), if_pos h, if_neg h50]
  · rw [if_pos h, if_neg (fun e => h e.1), if_neg h]

/-! ### merges -/

theorem Same_Equal (a b : List T_edit_Step) : edit_Same a b = slices_Equal_edit_Step a b := by
  unfold edit_Same
  cases slices_Equal_edit_Step a b <;> rfl

open Classical in
/-- What a merge yields, and whether there is a conflict. -/
noncomputable def mergeS (base a b : List T_edit_Step) : List T_edit_Step × Bool :=
  let n := min (comN base a) (comN base b)
  if a = base then (b, false) else if b = base ∨ a = b then (a, false)
  else if base.length ≤ n ∧ ((a.drop n ++ b.drop n).any fun s => decide (shapeK s)) = false then (base.take n ++ a.drop n ++ b.drop n, false) else (a, true)

section
variable {base a b : List T_edit_Step}
theorem drop_same {n : Nat} {c : List T_edit_Step} (hc : base.take n = c.take n) : c.drop n = base.drop n ↔ c = base :=
  ⟨fun h => by rw [← List.take_append_drop n c, ← List.take_append_drop n base, h, hc], fun h => by rw [h]⟩

theorem Merge_S (h0 : stepsE base = 0) (h1 : stepsE a = 0) (h2 : stepsE b = 0) : edit_Merge base a b = some (outM (mergeS base a b).2 (mergeS base a b).1) := by
  have l0 := (stepsE_ok h0).1
  have l1 := (stepsE_ok h1).1
  have l2 := (stepsE_ok h2).1
  have ca := comN_le base a
  have cb := comN_le base b
  unfold mergeS
  obtain ⟨n, hn⟩ : ∃ n : Nat, n = min (comN base a) (comN base b) := ⟨_, rfl⟩
  rw [← hn]
  have ta := comN_take base a n (by omega)
  have tb := comN_take base b n (by omega)
  have eab : a.drop n = b.drop n ↔ a = b := ⟨fun h => by rw [← List.take_append_drop n a, ← List.take_append_drop n b, h, ← ta, ← tb], fun h => by rw [h]⟩
  have hM : ∀ r, (cnd (decide ((0 : Int) ≠ 0)) (some (([] : List T_edit_Step), false, (0 : Int))) r) = r := fun r => by rw [cnd_if, if_neg (by simp)]
  unfold edit_Merge
  rw [checkAll3, h0, h1, h2, if_neg (by simp), if_neg (by simp), bnd_pure, hM, Common_eq _ _ (by omega), bnd_pure, Common_eq _ _ (by omega), bnd_pure]
  rw [show min ((comN base a : Nat) : Int) ((comN base b : Nat) : Int) = (n : Int) from by omega]
  rw [gCut_from (by omega), bnd_pure, gCut_from (by omega), bnd_pure, gCut_from (by omega), bnd_pure, Int.toNat_natCast]
  by_cases c1 : a = base
  · rw [Same_t (by rw [List.length_drop]; omega) ((drop_same ta).2 c1), bnd_pure, cnd_true, j1_eq, if_pos c1]
  rw [Same_f (by rw [List.length_drop]; omega) (fun h => c1 ((drop_same ta).1 h)), bnd_pure, cnd_false, if_neg c1]
  by_cases c2 : b = base
  · rw [Same_t (by rw [List.length_drop]; omega) ((drop_same tb).2 c2), bnd_pure, cnd_true, j1_eq, if_pos (.inl c2)]
  rw [Same_f (by rw [List.length_drop]; omega) (fun h => c2 ((drop_same tb).1 h)), bnd_pure, cnd_false]
  by_cases c3 : a = b
  · rw [Same_t (by rw [List.length_drop]; omega) (eab.2 c3), bnd_pure, cnd_true, j1_eq, if_pos (.inr c3)]
  rw [Same_f (by rw [List.length_drop]; omega) (fun h => c3 (eab.1 h)), bnd_pure, cnd_false, if_neg (fun h => h.elim c2 c3), cnd_if]
  by_cases hz : (base.drop n).length = 0
  · have hn0 : base.length ≤ n := by rw [List.length_drop] at hz; omega
    rw [if_pos (by omega), Concat2 _ _ (by rw [List.length_drop, List.length_drop]; omega), bnd_pure, ContainsFunc_eq _ _ (fun s => decide (shapeK s)) (by rw [List.length_append, List.length_drop, List.length_drop]; omega) (fun s _ => Shape_eq s), bnd_pure]
    cases hb : (a.drop n ++ b.drop n).any fun s => decide (shapeK s) with
    | true => rw [Bool.not_true, cnd_false, j1_eq, if_neg (fun h => by cases h.2)]
    | false => rw [Bool.not_false, cnd_true, gCut_to (by omega), bnd_pure, Int.toNat_natCast, Concat3 _ _ _ (by rw [List.length_take, List.length_drop, List.length_drop]; omega), bnd_pure, j1_eq, if_pos ⟨hn0, rfl⟩]
  · rw [if_neg (by omega), j1_eq, if_neg (fun h => by have := h.1; rw [List.length_drop] at hz; omega)]

theorem MergeOf_S (h0 : stepsE base = 0) (h1 : stepsE a = 0) (h2 : stepsE b = 0) : R_MergeOf base a b = some (mergeS base a b) := by
  have l0 := (stepsE_ok h0).1
  have l1 := (stepsE_ok h1).1
  have l2 := (stepsE_ok h2).1
  have ca := comN_le base a
  have cb := comN_le base b
  have cab := comN_tri base a b
  unfold mergeS
  obtain ⟨n, hn⟩ : ∃ n : Nat, n = min (comN base a) (comN base b) := ⟨_, rfl⟩
  rw [← hn]
  have ta := comN_take base a n (by omega)
  have tb := comN_take base b n (by omega)
  have eab : a.drop n = b.drop n ↔ a = b := ⟨fun h => by rw [← List.take_append_drop n a, ← List.take_append_drop n b, h, ← ta, ← tb], fun h => by rw [h]⟩
  have St : ∀ {x y : List T_edit_Step}, x.length ≤ 3518437208780 → x = y → slices_Equal_edit_Step x y = some true := fun hx h => by rw [← Same_Equal]; exact Same_t hx h
  have Sf : ∀ {x y : List T_edit_Step}, x.length ≤ 3518437208780 → x ≠ y → slices_Equal_edit_Step x y = some false := fun hx h => by rw [← Same_Equal]; exact Same_f hx h
  have hmin : min (min ((comN base a : Nat) : Int) ((comN base b : Nat) : Int)) ((comN a b : Nat) : Int) = (n : Int) := by omega
  unfold R_MergeOf
  rw [CommonOf_eq _ _ (by omega), bnd_pure, CommonOf_eq _ _ (by omega), bnd_pure, CommonOf_eq _ _ (by omega), bnd_pure, hmin]
  rw [gCut_from (by omega), bnd_pure, gCut_from (by omega), bnd_pure, gCut_from (by omega), bnd_pure, Int.toNat_natCast]
  rw [Concat2 _ _ (by rw [List.length_drop, List.length_drop]; omega), bnd_pure]
  by_cases c1 : a = base
  · rw [St (by rw [List.length_drop]; omega) ((drop_same ta).2 c1), bnd_pure, cnd_true, if_pos c1]
  rw [Sf (by rw [List.length_drop]; omega) (fun h => c1 ((drop_same ta).1 h)), bnd_pure, cnd_false, if_neg c1]
  by_cases c2 : b = base
  · rw [St (by rw [List.length_drop]; omega) ((drop_same tb).2 c2), bnd_pure, cnd_true, if_pos (.inl c2)]; rfl
  rw [Sf (by rw [List.length_drop]; omega) (fun h => c2 ((drop_same tb).1 h)), bnd_pure, cnd_false]
  by_cases c3 : a = b
  · rw [St (by rw [List.length_drop]; omega) (eab.2 c3), bnd_pure, if_pos (.inr c3)]; rfl
  rw [Sf (by rw [List.length_drop]; omega) (fun h => c3 (eab.1 h)), bnd_pure, if_neg (fun h => h.elim c2 c3)]
  unfold R_MergeOf_j1
  rw [cnd_false, cnd_if, hmin]
  by_cases hz : (base.drop n).length = 0
  · have hn0 : base.length ≤ n := by rw [List.length_drop] at hz; omega
    rw [if_pos (by omega), ContainsFunc_eq _ _ (fun s => decide (shapeK s)) (by rw [List.length_append, List.length_drop, List.length_drop]; omega) (fun s _ => by
      unfold R_MergeOf_2 R_MergeOf_1
      rw [Shaped_eq, bnd_pure, bnd_pure]; simp), bnd_pure]
    cases hb : (a.drop n ++ b.drop n).any fun s => decide (shapeK s) with
    | true => rw [Bool.not_true, cnd_false, if_neg (fun h => by cases h.2)]
    | false => rw [Bool.not_false, cnd_true, gCut_to (by omega), bnd_pure, Int.toNat_natCast, Concat3 _ _ _ (by rw [List.length_take, List.length_drop, List.length_drop]; omega), bnd_pure, if_pos ⟨hn0, rfl⟩]
  · rw [if_neg (by omega), if_neg (fun h => by have := h.1; rw [List.length_drop] at hz; omega)]
end

theorem merge_len {base a b : List T_edit_Step} (h0 : stepsE base = 0) (h1 : stepsE a = 0) (h2 : stepsE b = 0) : (mergeS base a b).1.length ≤ 1000 := by
  have l0 := (stepsE_ok h0).1
  have l1 := (stepsE_ok h1).1
  have l2 := (stepsE_ok h2).1
  unfold mergeS
  simp only
  repeat' split
  all_goals simp only [List.length_append, List.length_take, List.length_drop]
  all_goals omega

/-- Merge of recipes of which one is wrong. -/
theorem Merge_no {base a b : List T_edit_Step} (h : fst2 (stepsE base) (fst2 (stepsE a) (stepsE b)) ≠ 0) : edit_Merge base a b = some ([], false, fst2 (stepsE base) (fst2 (stepsE a) (stepsE b))) := by
  unfold edit_Merge
  rw [checkAll3, bnd_pure]
  show cnd (decide (fst2 (stepsE base) (fst2 (stepsE a) (stepsE b)) ≠ 0)) _ _ = _
  rw [cnd_if, if_pos h]; rfl

/-! ### the law -/

theorem others_end {base a b : List T_edit_Step} : bnd (edit_Merge base a b) (fun t96 => bnd (R_StepsFault base) fun t101 => bnd (Law_first [t101, fst2 (stepsE a) (stepsE b)]) fun t104 => cnd (decide (t104 = 0)) (bnd (R_MergeOf base a b) fun t111 => bnd (Law_unless (decide ((t111.1.length : Int) ≤ 50)) 4) fun t117 => cnd (decide (t117 ≠ 0)) (Law_EditOthers_j2 t96 t117 false t111.1) (Law_EditOthers_j2 t96 t117 t111.2 t111.1)) (Law_EditOthers_j2 t96 t104 false ([] : List T_edit_Step))) = some true := by
  have unl : ∀ (x : Bool) (e : Int), Law_unless x e = some (if x = true then 0 else e) := fun x e => by unfold Law_unless; cases x <;> rfl
  by_cases h : fst2 (stepsE base) (fst2 (stepsE a) (stepsE b)) = 0
  · obtain ⟨h0, h12⟩ := fst2_zero h
    obtain ⟨h1, h2⟩ := fst2_zero h12
    have hl := merge_len h0 h1 h2
    rw [Merge_S h0 h1 h2, bnd_pure, StepsFault_eq, bnd_pure, fst_two, bnd_pure]
    show cnd (decide (fst2 (stepsE base) (fst2 (stepsE a) (stepsE b)) = 0)) _ _ = _
    rw [cnd_if, if_pos h, MergeOf_S h0 h1 h2, bnd_pure, unl, bnd_pure]
    generalize mergeS base a b = M at hl
    obtain ⟨l, c⟩ := M
    simp only at hl ⊢
    unfold outM
    by_cases h50 : 50 < l.length
    · rw [if_pos h50, if_neg (by simpa using (by omega : ¬ (l.length : Int) ≤ 50)), cnd_if, if_pos (by decide)]
      unfold Law_EditOthers_j2
      rw [listedSteps (by simp) (fun h => by cases h) (fun _ => rfl) rfl, bnd_pure, cnd_true]; rfl
    · rw [if_neg h50, if_pos (by simpa using (by omega : (l.length : Int) ≤ 50)), cnd_if, if_neg (by decide)]
      unfold Law_EditOthers_j2
      rw [listedSteps (by simp only; omega) (fun _ => rfl) (fun h => absurd rfl h) rfl, bnd_pure, cnd_true]; simp
  · rw [Merge_no h, bnd_pure, StepsFault_eq, bnd_pure, fst_two, bnd_pure]
    show cnd (decide (fst2 (stepsE base) (fst2 (stepsE a) (stepsE b)) = 0)) _ _ = _
    rw [cnd_if, if_neg h]
    unfold Law_EditOthers_j2
    have hl : Law_listed_edit_Step [] (fst2 (stepsE base) (fst2 (stepsE a) (stepsE b))) [] (fst2 (stepsE base) (fst2 (stepsE a) (stepsE b))) = some true := listedSteps (by simp) (fun e => absurd e h) (fun _ => rfl) rfl
    show bnd (Law_listed_edit_Step [] (fst2 (stepsE base) (fst2 (stepsE a) (stepsE b))) [] (fst2 (stepsE base) (fst2 (stepsE a) (stepsE b)))) _ = _
    rw [hl, bnd_pure, cnd_true]; rfl

theorem editOthersS (base a b : List T_edit_Step) {φ : T_edit_Step → Prop} {ψ : Prop} (_ : ψ) (ha : (a.length ≤ 9223372036854775807 ∧ a.length * 40 ≤ 140737488351232) ∧ ∀ x ∈ a, φ x) (hb : (b.length ≤ 9223372036854775807 ∧ b.length * 40 ≤ 140737488351232) ∧ ∀ x ∈ b, φ x) : Law_EditOthers base a b = some true := by
  have unl : ∀ (x : Bool) (e : Int), Law_unless x e = some (if x = true then 0 else e) := fun x e => by unfold Law_unless; cases x <;> rfl
  have la := ha.1.2
  have lb := hb.1.2
  have pa := parts_len a
  have pb := parts_len b
  unfold Law_EditOthers
  rw [StepsFault_eq, bnd_pure, StepsFault_eq, bnd_pure, fst_two, bnd_pure, Like_eq, bnd_pure, Differ_eq, bnd_pure, Parted_ap a (by omega), bnd_pure, Parted_ap b (by omega), bnd_pure]
  show bnd (slices_Concat_edit_Step [shapes b, tones a]) _ = _
  rw [Concat2 _ _ (by omega), bnd_pure, unl, bnd_pure, fst_two, bnd_pure, cnd_if]
  have hlike : (shapes b ++ tones a).length ≤ 9000000000000000 := by rw [List.length_append]; omega
  generalize hL : shapes b ++ tones a = L at hlike
  have mid : ∀ d, (fst2 (stepsE a) (stepsE b) = 0 → d = differS a b) →
      Law_EditOthers_j1 base a b (if stepsE a ≠ 0 then stepsE a else stepsE b) (if fst2 (stepsE a) (stepsE b) = 0 ∧ L.length ≤ 50 then L else [], if fst2 (stepsE a) (stepsE b) = 0 then (if L.length ≤ 50 then 0 else 4) else fst2 (stepsE a) (stepsE b)) (if fst2 (stepsE a) (stepsE b) = 0 then differS a b else [], fst2 (stepsE a) (stepsE b)) L (if (if stepsE a ≠ 0 then stepsE a else stepsE b) ≠ 0 then (if stepsE a ≠ 0 then stepsE a else stepsE b) else if (decide ((L.length : Int) ≤ 50)) = true then 0 else 4) d = some true := fun d hd => by
    show Law_EditOthers_j1 base a b (fst2 (stepsE a) (stepsE b)) _ _ L (if fst2 (stepsE a) (stepsE b) ≠ 0 then fst2 (stepsE a) (stepsE b) else if (decide ((L.length : Int) ≤ 50)) = true then 0 else 4) d = _
    have gen : ∀ F : Int, (if F = 0 then (if L.length ≤ 50 then (0 : Int) else 4) else F) = (if F ≠ 0 then F else if (decide ((L.length : Int) ≤ 50)) = true then 0 else 4) := fun F => by
      by_cases h : F = 0
      · subst h
        simp only [if_true, ne_eq, not_true, if_false, decide_eq_true_eq]
        by_cases h50 : L.length ≤ 50
        · rw [if_pos h50, if_pos (by omega)]
        · rw [if_neg h50, if_neg (by omega)]
      · rw [if_neg h, if_pos h]
    have he := gen (fst2 (stepsE a) (stepsE b))
    rw [← he]
    unfold Law_EditOthers_j1
    rw [Common_eq a b (by omega), bnd_pure, CommonOf_eq a b (by omega), bnd_pure, cnd_if, if_neg (fun h => h rfl)]
    rw [listedSteps (v := if fst2 (stepsE a) (stepsE b) = 0 ∧ L.length ≤ 50 then L else []) (w := L) (by split <;> first | exact hlike | simp) (fun h => ?_) (fun h => ?_) rfl, bnd_pure, Bool.not_true, cnd_false]
    · rw [listedStrs (v := if fst2 (stepsE a) (stepsE b) = 0 then differS a b else []) (w := d) ?_ (fun h => by rw [if_pos h, hd h]) (fun h => by rw [if_neg h]) rfl, bnd_pure, Bool.not_true, cnd_false]
      · exact others_end
      · split
        · rename_i h
          obtain ⟨h1, h2⟩ := fst2_zero h
          have := (stepsE_ok h1).1
          have := (stepsE_ok h2).1
          unfold differS
          simp only [List.length_append, List.length_map, List.length_drop]; omega
        · simp
    · by_cases h1 : fst2 (stepsE a) (stepsE b) = 0
      · rw [if_pos h1] at h
        by_cases h50 : L.length ≤ 50
        · rw [if_pos ⟨h1, h50⟩]
        · rw [if_neg h50] at h; cases h
      · rw [if_neg h1] at h; exact absurd h h1
    · by_cases h1 : fst2 (stepsE a) (stepsE b) = 0
      · rw [if_pos h1] at h
        by_cases h50 : L.length ≤ 50
        · rw [if_pos h50] at h; exact absurd rfl h
        · rw [if_neg (fun e => h50 e.2)]
      · rw [if_neg (fun e => h1 e.1)]
  by_cases h : (if stepsE a ≠ 0 then stepsE a else stepsE b) = 0
  · rw [if_pos h, DifferOf_eq h, bnd_pure]; exact mid _ fun _ => rfl
  · rw [if_neg h]; exact mid _ fun e => absurd e h
end Go.M
