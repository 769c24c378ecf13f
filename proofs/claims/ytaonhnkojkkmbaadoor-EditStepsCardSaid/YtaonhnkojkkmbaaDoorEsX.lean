/- Steps written and read, in plain Lean; the law EditSteps. Conditions: none. -/
import Derived.Test.YtaonhnkojkkmbaaDoorEsT
import Derived.Test.YtaonhnkojkkmbaaDoorEsP
namespace Go.M
open Go.Md Go.Pl

/-! ### strings in parts -/

theorem j2_split {B n k : Nat} {x : List UInt8} {l : List (List UInt8)} (hk : k ≤ n) (hn : n ≤ 2000000) (hl : l.length = n + 1) (hx : x.length ≤ B) (hb : ∀ y ∈ l, y.length ≤ B) :
    ∃ r, strings_genSplit_j2 x (k : Int) l = some r ∧ r ≠ [] ∧ r.length ≤ n + 1 ∧ ∀ y ∈ r, y.length ≤ B := by
  unfold strings_genSplit_j2
  rw [gAt_nat (by omega), bnd_pure, gSet_ok (by omega) (by omega), bnd_pure, gI_ok (by omega), bnd_pure, gCut_to (by rw [List.length_set]; omega), bnd_pure]
  refine ⟨_, rfl, fun e => ?_, ?_, fun y hy => ?_⟩
  · have := congrArg List.length e
    rw [List.length_take, List.length_set] at this
    simp only [List.length_nil] at this
    omega
  · rw [List.length_take, List.length_set]; omega
  · rcases List.mem_or_eq_of_mem_set (List.mem_of_mem_take hy) with h | h
    · exact hb y h
    · rw [h]; exact hx

theorem split_loop {B n : Nat} (hn : n ≤ 2000000) (hB : B ≤ 2000000) (c : UInt8) (s : List UInt8) (l : List (List UInt8)) (hl : l.length = n + 1) (hs : s.length ≤ B) (hb : ∀ y ∈ l, y.length ≤ B) :
    ∃ r, fix (fun next3 s => strings_genSplit_l3 [c] 0 (n : Int) next3 s.1 s.2.1 s.2.2) (s, (0 : Int), l) = some r ∧ r ≠ [] ∧ r.length ≤ n + 1 ∧ ∀ y ∈ r, y.length ≤ B := by
  refine fix_run (fun a : List UInt8 × Int × List (List UInt8) => ∃ k : Nat, a.2.1 = (k : Int) ∧ k ≤ n ∧ a.1.length ≤ B ∧ a.2.2.length = n + 1 ∧ ∀ y ∈ a.2.2, y.length ≤ B) (fun a : List UInt8 × Int × List (List UInt8) => n - a.2.1.toNat) (fun r : List (List UInt8) => r ≠ [] ∧ r.length ≤ n + 1 ∧ ∀ y ∈ r, y.length ≤ B) ?_ (s, (0 : Int), l) ⟨0, rfl, by omega, hs, hl, hb⟩
  rintro ⟨x, i, l⟩ ⟨k, hk, hkn, hx, hl, hb⟩
  simp only at hk hx hl hb
  subst hk
  obtain ⟨r, hr, hr2⟩ := j2_split hkn hn hl hx hb
  by_cases hlt : k < n
  · have hi : strings_Index x [c] = some (ixB x c) := by unfold strings_Index; rw [Index1_eq, bnd_pure]
    by_cases hc : (cutS c x).2.2 = true
    · right
      have hix := cutS_ix c x
      rw [if_pos hc] at hix
      have hln := congrArg List.length (cutS_yes hc)
      rw [List.length_append, List.length_cons] at hln
      have hm : (cutS c x).1.length < x.length := by omega
      refine ⟨(x.drop ((cutS c x).1.length + 1), ((k + 1 : Nat) : Int), l.set k (x.take (cutS c x).1.length)), ⟨k + 1, rfl, by omega, by rw [List.length_drop]; omega, by rw [List.length_set]; exact hl, fun y hy => ?_⟩, ?_, fun next => ?_⟩
      · rcases List.mem_or_eq_of_mem_set hy with h | h
        · exact hb y h
        · rw [h, List.length_take]; omega
      · show n - (((k + 1 : Nat) : Int)).toNat < n - ((k : Int)).toNat
        omega
      · show strings_genSplit_l3 [c] 0 (n : Int) next x (k : Int) l = _
        unfold strings_genSplit_l3
        have e1 : (([c] : List UInt8).length : Int) = 1 := rfl
        rw [cnd_if, if_pos (by omega), hi, bnd_pure, hix, cnd_if, if_neg (by omega), gI_ok (by omega), bnd_pure, gCut_to (by omega), bnd_pure, gAt_nat (by omega), bnd_pure, gSet_ok (by omega) (by omega), bnd_pure, e1, gI_ok (by omega), bnd_pure, gCut_from (by omega), bnd_pure, gI_ok (by omega), bnd_pure]
        rw [show (((cutS c x).1.length : Int) + 0).toNat = (cutS c x).1.length from by omega, show (((cutS c x).1.length : Int) + 1).toNat = (cutS c x).1.length + 1 from by omega, Int.toNat_natCast]
        rfl
    · left
      refine ⟨r, hr2, fun next => ?_⟩
      show strings_genSplit_l3 [c] 0 (n : Int) next x (k : Int) l = _
      unfold strings_genSplit_l3
      have hix := cutS_ix c x
      rw [if_neg hc] at hix
      rw [cnd_if, if_pos (by omega), hi, bnd_pure, hix, cnd_if, if_pos (by omega), hr]
  · left
    refine ⟨r, hr2, fun next => ?_⟩
    show strings_genSplit_l3 [c] 0 (n : Int) next x (k : Int) l = _
    unfold strings_genSplit_l3
    rw [cnd_if, if_neg (by omega), hr]

/-- A string in parts: there is at least one. -/
theorem Split_ok (c : UInt8) (s : List UInt8) (hs : s.length ≤ 1000000) : ∃ r, strings_Split s [c] = some r ∧ r ≠ [] ∧ r.length ≤ s.length + 1 ∧ ∀ y ∈ r, y.length ≤ s.length := by
  have hc := List.count_le_length (a := c) (l := s)
  have e1 : strings_Count s [c] = some ((s.count c : Nat) : Int) := by
    unfold strings_Count
    rw [cnd_if, if_neg (by simp), cnd_if, if_pos (by rfl), show gOct [c] 0 = some (c.toNat : Int) from rfl, bnd_pure, show gCnB s (c.toNat : Int) = some ((s.count c : Nat) : Int) from by unfold gCnB; rw [Int.toNat_natCast]; simp, bnd_pure]
  obtain ⟨r, h1, h2, h3, h4⟩ := split_loop (B := s.length) (n := s.count c) (by omega) (by omega) c s (List.replicate (s.count c + 1) []) (by simp) (Nat.le_refl _) (fun y hy => by rw [(List.mem_replicate.1 hy).2]; simp)
  refine ⟨r, ?_, h2, by omega, h4⟩
  unfold strings_Split strings_genSplit
  rw [cnd_if, if_neg (by omega), cnd_if, if_neg (by simp), cnd_if, if_pos (by omega), e1, bnd_pure, gI_ok (by omega), bnd_pure]
  unfold strings_genSplit_j1
  rw [gI_ok (by omega), bnd_pure, show min ((s.count c : Int) + 1) ((s.length : Int) + 1) = ((s.count c + 1 : Nat) : Int) from by omega, gMake_ok (by omega), bnd_pure, gI_ok (by omega), bnd_pure, Int.toNat_natCast, show (((s.count c + 1 : Nat) : Int) - 1) = ((s.count c : Nat) : Int) from by omega, h1, bnd_pure]

/-! ### numbers -/

instance (n : Nat) (s : List UInt8) : Decidable (numOk n s) := by unfold numOk; infer_instance

theorem number_eq (s : List UInt8) : ∃ v, edit_number s = some (v, decide (numOk 4 s)) ∧ (numOk 4 s → v = numV s) := by
  unfold edit_number
  rw [TrimP_eq, bnd_pure, show (if s.head? = some 45 then s.tail else s) = digS s from rfl, cnd_if, cnd_if]
  by_cases h0 : digS s = []
  · rw [if_pos h0]
    have : ¬ numOk 4 s := fun h => h.1 h0
    exact ⟨0, by simp [this], fun h => absurd h this⟩
  by_cases h4 : (digS s).length ≤ 4
  · obtain ⟨r, hr, hr2⟩ := TrimD (digS s) (by omega)
    rw [if_neg h0, if_neg (by omega), hr, bnd_pure, cnd_if]
    by_cases hd : (digS s).all dg = true
    · have hb := numV_lt hd h4
      rw [if_neg (fun h => h (hr2.2 hd)), atoi_num h0 (by omega) hd, bnd_pure, show gItoa (numV s) = some (itoaL (numV s)) from if_pos (by omega), bnd_pure]
      refine ⟨numV s, ?_, fun _ => rfl⟩
      congr 2
      rw [decide_eq_decide, itoa_num h0 hd]
      exact ⟨fun h => ⟨h0, h4, hd, h⟩, fun h => h.2.2.2⟩
    · have : ¬ numOk 4 s := fun h => hd h.2.2.1
      rw [if_pos (fun h => hd (hr2.1 h))]
      exact ⟨0, by simp [this], fun h => absurd h this⟩
  · rw [if_neg h0, if_pos (by omega)]
    have : ¬ numOk 4 s := fun h => h4 h.2.1
    exact ⟨0, by simp [this], fun h => absurd h this⟩

theorem Whole4_eq (s : List UInt8) : ∃ v, R_Whole s 4 true = some (v, decide (numOk 4 s)) ∧ (numOk 4 s → v = numV s) := by
  unfold R_Whole
  rw [cnd_true, TrimP_eq, bnd_pure, show (if s.head? = some 45 then s.tail else s) = digS s from rfl]
  unfold R_Whole_j1
  rw [cnd_if, cnd_if]
  by_cases h0 : digS s = []
  · rw [if_pos h0]
    have : ¬ numOk 4 s := fun h => h.1 h0
    exact ⟨0, by simp [this], fun h => absurd h this⟩
  by_cases h4 : (digS s).length ≤ 4
  · obtain ⟨r, hr, hr2⟩ := TrimD (digS s) (by omega)
    rw [if_neg h0, if_neg (by omega), hr, bnd_pure, cnd_if]
    by_cases hd : (digS s).all dg = true
    · rw [if_neg (fun h => h (hr2.2 hd)), head_ne h0 0, bnd_pure, cnd_if, cnd_if]
      have j2 : R_Whole_j2 s = some (numV s, true) := by
        unfold R_Whole_j2
        rw [atoi_num h0 (by omega) hd, bnd_pure]
      by_cases h48 : (((digS s).head h0).toNat : Int) = 48
      · rw [if_pos h48]
        by_cases hz : s = [48]
        · have : numOk 4 s := ⟨h0, h4, hd, fun _ => hz⟩
          rw [if_neg (by simpa using hz), j2]
          exact ⟨_, by simp [this], fun _ => rfl⟩
        · have : ¬ numOk 4 s := fun h => hz (h.2.2.2 ((head48 h0).1 h48))
          rw [if_pos hz]
          exact ⟨0, by simp [this], fun h => absurd h this⟩
      · have : numOk 4 s := ⟨h0, h4, hd, fun h => absurd ((head48 h0).2 h) h48⟩
        rw [if_neg h48, j2]
        exact ⟨_, by simp [this], fun _ => rfl⟩
    · have : ¬ numOk 4 s := fun h => hd h.2.2.1
      rw [if_pos (fun h => hd (hr2.1 h))]
      exact ⟨0, by simp [this], fun h => absurd h this⟩
  · rw [if_neg h0, if_pos (by omega)]
    have : ¬ numOk 4 s := fun h => h4 h.2.1
    exact ⟨0, by simp [this], fun h => absurd h this⟩

/-! ### a line as a step -/

/-- The numbers that the first words give. -/
def gN (ws : List (List UInt8)) (i j : Nat) : Int := if j < i then numV (ws.getD j []) else 0
def stepN (k : Int) (ws : List (List UInt8)) : T_edit_Step := ⟨k, gN ws ws.length 0, gN ws ws.length 1, gN ws ws.length 2, gN ws ws.length 3⟩
def okW (ws : List (List UInt8)) : Prop := ∀ x ∈ ws, numOk 4 x
theorem gN_le (ws : List (List UInt8)) {i j : Nat} (h : i ≤ j) : gN ws i j = 0 := if_neg (by omega)
theorem gN_succ (ws : List (List UInt8)) {i j : Nat} (h : j ≠ i) : gN ws (i + 1) j = gN ws i j := by
  unfold gN
  by_cases h1 : j < i
  · rw [if_pos h1, if_pos (by omega)]
  · rw [if_neg h1, if_neg (by omega)]
theorem gN_self (ws : List (List UInt8)) (i : Nat) : gN ws (i + 1) i = numV (ws.getD i []) := if_pos (by omega)

theorem cutQ (u : Nat) (hu : u ≤ 4) : gCut ([0, 1, 2, 3] : List Nat) 0 (u : Int) = some ([0, 1, 2, 3].take u) := by
  rw [gCut_to (by simp; omega), Int.toNat_natCast]
theorem atQ {u i : Nat} (hu : u ≤ 4) (hi : i < u) : gAt ([0, 1, 2, 3].take u : List Nat) (i : Int) = some i := by
  have h4 : i < 4 := by omega
  rw [gAt_nat (by rw [List.length_take]; simp; omega)]
  rw [List.getElem_take]
  match i, h4 with
  | 0, _ => rfl
  | 1, _ => rfl
  | 2, _ => rfl
  | 3, _ => rfl
theorem lenQ {u : Nat} (hu : u ≤ 4) : (([0, 1, 2, 3].take u : List Nat).length : Int) = u := by rw [List.length_take]; simp; omega

theorem words_loop (w0 : List UInt8) (ws : List (List UInt8)) (h4 : ws.length ≤ 4) (k : Int) :
    fix (fun next5 s => edit_readStep_l5 (w0 :: ws) k ([0, 1, 2, 3].take ws.length) next5 s.1 s.2.1 s.2.2.1 s.2.2.2.1 s.2.2.2.2) (0, 0, 0, 0, 0) = some (if ∀ x ∈ ws, numOk 4 x then (stepN k ws, true) else (⟨0, 0, 0, 0, 0⟩, false)) := by
  have key : ∀ m i : Nat, i + m = ws.length → (∀ j, j < i → numOk 4 (ws.getD j [])) → fix (fun next5 s => edit_readStep_l5 (w0 :: ws) k ([0, 1, 2, 3].take ws.length) next5 s.1 s.2.1 s.2.2.1 s.2.2.2.1 s.2.2.2.2) ((i : Int), gN ws i 0, gN ws i 1, gN ws i 2, gN ws i 3) = some (if ∀ x ∈ ws, numOk 4 x then (stepN k ws, true) else (⟨0, 0, 0, 0, 0⟩, false)) := by
    intro m
    induction m with
    | zero =>
      intro i hi hok
      have : i = ws.length := by omega
      subst this
      have ha : ∀ x ∈ ws, numOk 4 x := fun x hx => by
        obtain ⟨j, hj, rfl⟩ := List.getElem_of_mem hx
        have := hok j hj
        rwa [List.getD_eq_getElem?_getD, List.getElem?_eq_getElem hj] at this
      refine fix_done fun next => ?_
      show edit_readStep_l5 _ _ _ next _ _ _ _ _ = _
      unfold edit_readStep_l5
      rw [cnd_if, if_neg (by rw [lenQ h4]; omega), if_pos ha]
      rfl
    | succ m ih =>
      intro i hi hok
      have hlt : i < ws.length := by omega
      have hg : ws.getD i [] = ws[i] := by rw [List.getD_eq_getElem?_getD, List.getElem?_eq_getElem hlt]; rfl
      obtain ⟨v, hv, hv2⟩ := number_eq ws[i]
      have ht : gAt (w0 :: ws) ((i : Int) + 1) = some ws[i] := by
        have := gAt_nat (xs := w0 :: ws) (k := i + 1) (by simp; omega)
        simpa using this
      by_cases hn : numOk 4 ws[i]
      · have := ih (i + 1) (by omega) (fun j hj => by
          by_cases hji : j = i
          · subst hji; rw [hg]; exact hn
          · exact hok j (by omega))
        rw [← this]
        refine fix_goto _ fun next => ?_
        show edit_readStep_l5 _ _ _ next _ _ _ _ _ = _
        unfold edit_readStep_l5
        rw [cnd_if, if_pos (by rw [lenQ h4]; omega), atQ h4 hlt, bnd_pure, gI_ok (by omega), bnd_pure, ht, bnd_pure, hv, bnd_pure, decide_eq_true hn]
        show cnd false _ _ = _
        rw [cnd_false, gIf_ok (by omega), bnd_pure]
        have hvv : v = gN ws (i + 1) i := by rw [gN_self, hg]; exact hv2 hn
        have e5 : ∀ a b c d : Int, edit_readStep_j6 (i : Int) next a b c d = next (((i + 1 : Nat) : Int), a, b, c, d) := fun a b c d => by
          unfold edit_readStep_j6; rw [gI_ok (by omega), bnd_pure]; rfl
        rw [e5, e5, e5, e5, cnd_if, cnd_if, cnd_if]
        show (if i = 0 then next (((i + 1 : Nat) : Int), v, gN ws i 1, gN ws i 2, gN ws i 3) else if i = 1 then next (((i + 1 : Nat) : Int), gN ws i 0, v, gN ws i 2, gN ws i 3) else if i = 2 then next (((i + 1 : Nat) : Int), gN ws i 0, gN ws i 1, v, gN ws i 3) else next (((i + 1 : Nat) : Int), gN ws i 0, gN ws i 1, gN ws i 2, v)) = _
        rw [hvv]
        rcases (show i = 0 ∨ i = 1 ∨ i = 2 ∨ i = 3 by omega) with h | h | h | h
        · rw [if_pos h, h, gN_succ ws (i := 0) (j := 1) (by omega), gN_succ ws (i := 0) (j := 2) (by omega), gN_succ ws (i := 0) (j := 3) (by omega)]
        · rw [if_neg (by omega), if_pos h, h, gN_succ ws (i := 1) (j := 0) (by omega), gN_succ ws (i := 1) (j := 2) (by omega), gN_succ ws (i := 1) (j := 3) (by omega)]
        · rw [if_neg (by omega), if_neg (by omega), if_pos h, h, gN_succ ws (i := 2) (j := 0) (by omega), gN_succ ws (i := 2) (j := 1) (by omega), gN_succ ws (i := 2) (j := 3) (by omega)]
        · rw [if_neg (by omega), if_neg (by omega), if_neg (by omega), h, gN_succ ws (i := 3) (j := 0) (by omega), gN_succ ws (i := 3) (j := 1) (by omega), gN_succ ws (i := 3) (j := 2) (by omega)]
      · refine fix_done fun next => ?_
        show edit_readStep_l5 _ _ _ next _ _ _ _ _ = _
        unfold edit_readStep_l5
        rw [cnd_if, if_pos (by rw [lenQ h4]; omega), atQ h4 hlt, bnd_pure, gI_ok (by omega), bnd_pure, ht, bnd_pure, hv, bnd_pure, decide_eq_false hn]
        show cnd true _ _ = _
        rw [cnd_true, if_neg (fun h => hn (h _ (List.getElem_mem hlt)))]
  have := key ws.length 0 (by omega) (fun j hj => by omega)
  simpa [gN] using this

theorem spec_loop (ws : List (List UInt8)) (h4 : ws.length ≤ 4) (x3 : Int) (l3 : List T_edit_Step) (next2 : List UInt8 × Int × List T_edit_Step → Option (List T_edit_Step × Int × Int)) (t24 : List UInt8 × List UInt8 × Bool) (t30 : List (List UInt8)) (k t45 t47 : Int) :
    fix (fun next5 s => R_StepsRead_l5 x3 l3 next2 t24 t30 k t45 t47 ws next5 s.1 s.2) (0, (fun _ => 0)) = if ∀ x ∈ ws, numOk 4 x then bnd (gApp 40 l3 [stepN k ws]) fun l => bnd (gI (x3 + 1)) fun t => next2 (t24.2.1, t, l) else some ([], x3, 8) := by
  have key : ∀ m i : Nat, i + m = ws.length → (∀ j, j < i → numOk 4 (ws.getD j [])) → fix (fun next5 s => R_StepsRead_l5 x3 l3 next2 t24 t30 k t45 t47 ws next5 s.1 s.2) ((i : Int), fun j => gN ws i j) = if ∀ x ∈ ws, numOk 4 x then bnd (gApp 40 l3 [stepN k ws]) fun l => bnd (gI (x3 + 1)) fun t => next2 (t24.2.1, t, l) else some ([], x3, 8) := by
    intro m
    induction m with
    | zero =>
      intro i hi hok
      have : i = ws.length := by omega
      subst this
      have ha : ∀ x ∈ ws, numOk 4 x := fun x hx => by
        obtain ⟨j, hj, rfl⟩ := List.getElem_of_mem hx
        have := hok j hj
        rwa [List.getD_eq_getElem?_getD, List.getElem?_eq_getElem hj] at this
      refine fix_done fun next => ?_
      show R_StepsRead_l5 _ _ _ _ _ _ _ _ _ next _ _ = _
      unfold R_StepsRead_l5
      rw [cnd_if, if_neg (by omega), if_pos ha]
      rfl
    | succ m ih =>
      intro i hi hok
      have hlt : i < ws.length := by omega
      have hg : ws.getD i [] = ws[i] := by rw [List.getD_eq_getElem?_getD, List.getElem?_eq_getElem hlt]; rfl
      obtain ⟨v, hv, hv2⟩ := Whole4_eq ws[i]
      by_cases hn : numOk 4 ws[i]
      · have := ih (i + 1) (by omega) (fun j hj => by
          by_cases hji : j = i
          · subst hji; rw [hg]; exact hn
          · exact hok j (by omega))
        rw [← this]
        refine fix_goto _ fun next => ?_
        show R_StepsRead_l5 _ _ _ _ _ _ _ _ _ next _ _ = _
        unfold R_StepsRead_l5
        rw [cnd_if, if_pos (by omega), gAt_nat hlt, bnd_pure, hv, bnd_pure, gIx_nat (by omega), bnd_pure, decide_eq_true hn]
        show cnd false _ _ = _
        rw [cnd_false, gI_ok (by omega), bnd_pure]
        have hvv : v = gN ws (i + 1) i := by rw [gN_self, hg]; exact hv2 hn
        have : setA (fun j => gN ws i j) i v = fun j => gN ws (i + 1) j := by
          funext j
          unfold setA
          by_cases hj : j = i
          · subst hj; simp [hvv]
          · rw [gN_succ ws hj]; simp [hj]
        show next ((i : Int) + 1, setA (fun j => gN ws i j) i v) = _
        rw [this]
        rfl
      · refine fix_done fun next => ?_
        show R_StepsRead_l5 _ _ _ _ _ _ _ _ _ next _ _ = _
        unfold R_StepsRead_l5
        rw [cnd_if, if_pos (by omega), gAt_nat hlt, bnd_pure, hv, bnd_pure, gIx_nat (by omega), bnd_pure, decide_eq_false hn]
        show cnd true _ _ = _
        rw [cnd_true, if_neg (fun h => hn (h _ (List.getElem_mem hlt)))]
  have := key ws.length 0 (by omega) (fun j hj => by omega)
  simpa [gN] using this

/-! ### words of kinds -/

def wordsL : List (List UInt8) := [[], [116, 117, 114, 110], [99, 114, 111, 112], [115, 99, 97, 108, 101], [108, 105, 103, 104, 116], [115, 112, 114, 101, 97, 100], [108, 101, 118, 101, 108, 115], [119, 97, 114, 109], [109, 117, 116, 101], [105, 110, 118, 101, 114, 116]]
theorem Words_eq : R_stepWords = some wordsL := rfl
theorem words_inj : ∀ i j : Fin 10, wordsL[i.val]'(i.isLt) = wordsL[j.val]'(j.isLt) → i = j := by decide
theorem words_at {k : Int} (h : 1 ≤ k ∧ k ≤ 9) : ∃ hk : k.toNat < 10, wordsL[k.toNat]'hk = wordS k := by
  refine ⟨by omega, ?_⟩
  rcases nine h with h | h | h | h | h | h | h | h | h <;> subst h <;> rfl

theorem Index_ok (l : List (List UInt8)) (hl : l.length ≤ 1000) (x : List UInt8) : ∃ r : Int, slices_Index_string l x = some r ∧ ((r = -1 ∧ x ∉ l) ∨ ∃ h : r.toNat < l.length, 0 ≤ r ∧ l[r.toNat] = x) := by
  have key : ∀ m i : Nat, i + m = l.length → x ∉ l.take i → ∃ r : Int, fix (fun next1 s => slices_Index_string_l1 l x next1 s) (i : Int) = some r ∧ ((r = -1 ∧ x ∉ l) ∨ ∃ h : r.toNat < l.length, 0 ≤ r ∧ l[r.toNat] = x) := by
    intro m
    induction m with
    | zero =>
      intro i hi hx
      have : i = l.length := by omega
      subst this
      refine ⟨-1, fix_done fun next => ?_, .inl ⟨rfl, by rwa [List.take_length] at hx⟩⟩
      show slices_Index_string_l1 l x next _ = _
      unfold slices_Index_string_l1
      rw [cnd_if, if_neg (by omega)]
    | succ m ih =>
      intro i hi hx
      have hlt : i < l.length := by omega
      by_cases he : x = l[i]
      · refine ⟨i, fix_done fun next => ?_, .inr ⟨by omega, by omega, ?_⟩⟩
        · show slices_Index_string_l1 l x next _ = _
          unfold slices_Index_string_l1
          rw [cnd_if, if_pos (by omega), gAt_nat hlt, bnd_pure, cnd_if, if_pos he]
        · simp only [Int.toNat_natCast]; exact he.symm
      · obtain ⟨r, h1, h2⟩ := ih (i + 1) (by omega) (by
          rw [List.take_succ_eq_append_getElem hlt, List.mem_append, not_or]
          exact ⟨hx, by simpa using he⟩)
        refine ⟨r, ?_, h2⟩
        rw [← h1]
        refine fix_goto _ fun next => ?_
        show slices_Index_string_l1 l x next _ = _
        unfold slices_Index_string_l1
        rw [cnd_if, if_pos (by omega), gAt_nat hlt, bnd_pure, cnd_if, if_neg he, gI_ok (by omega), bnd_pure]
        rfl
  exact key l.length 0 (by omega) (by simp)

theorem kind_of (w0 : List UInt8) : ∃ r : Int, slices_Index_string wordsL w0 = some r ∧ r ≤ 9 ∧ ∀ k : Int, 1 ≤ k ∧ k ≤ 9 → (w0 = wordS k ↔ r = k) := by
  obtain ⟨r, h1, h2⟩ := Index_ok wordsL (by decide) w0
  have h10 : wordsL.length = 10 := rfl
  refine ⟨r, h1, ?_, fun k hk => ?_⟩
  · rcases h2 with ⟨rfl, _⟩ | ⟨h, h0, _⟩ <;> omega
  obtain ⟨hk2, hw⟩ := words_at hk
  refine ⟨fun e => ?_, fun e => ?_⟩
  · subst e
    rcases h2 with ⟨_, hm⟩ | ⟨h, h0, h3⟩
    · exact absurd (hw ▸ List.getElem_mem (l := wordsL) hk2) hm
    · have := words_inj ⟨r.toNat, h⟩ ⟨k.toNat, hk2⟩ (h3.trans hw.symm)
      have := congrArg Fin.val this
      simp only at this
      omega
  · subst e
    rcases h2 with ⟨rfl, _⟩ | ⟨h, h0, h3⟩
    · omega
    · exact h3.symm.trans hw

/-- What a line reads as. -/
noncomputable def lineOf (w0 : List UInt8) (ws : List (List UInt8)) (k : Int) : Option T_edit_Step :=
  open Classical in if (1 ≤ k ∧ k ≤ 9) ∧ ws.length = usedS k ∧ ∀ x ∈ ws, numOk 4 x then some (stepN k ws) else none

theorem readStep_eq {t w0 : List UInt8} {ws : List (List UInt8)} (hw : strings_Split t [32] = some (w0 :: ws)) {r : Int} (hr9 : r ≤ 9) (hr : ∀ k : Int, 1 ≤ k ∧ k ≤ 9 → (w0 = wordS k ↔ r = k)) :
    edit_readStep t = some ((lineOf w0 ws r).getD ⟨0, 0, 0, 0, 0⟩, (lineOf w0 ws r).isSome) := by
  unfold edit_readStep
  rw [hw, bnd_pure]
  have e0 : gAt (w0 :: ws) 0 = some w0 := rfl
  have hround : ∀ (next : Int → Option (T_edit_Step × Bool)) (k : Nat), 1 ≤ k → k ≤ 9 → (k : Int) ≠ r ∨ ws.length ≠ usedS k → edit_readStep_l2 (w0 :: ws) next (k : Int) = next ((k : Int) + 1) := by
    intro next k h1 h9 hne
    unfold edit_readStep_l2
    rw [cnd_if, if_pos (by omega), word_eq (by omega), bnd_pure, e0, bnd_pure, cnd_if]
    have e3 : edit_readStep_j3 (k : Int) next = next ((k : Int) + 1) := by unfold edit_readStep_j3; rw [gI_ok (by omega), bnd_pure]
    have hu := used_le (k : Int)
    by_cases hk : w0 = wordS k
    · rw [if_neg (by simpa using hk), gI_ok (by omega), bnd_pure, cnd_if, if_pos (by
        rcases hne with h | h
        · exact absurd ((hr k (by omega)).1 hk).symm h
        · rw [List.length_cons]; show ((ws.length + 1 : Nat) : Int) ≠ (usedS k : Int) + 1; omega), e3]
    · rw [if_pos hk, e3]
  by_cases hc : (1 ≤ r ∧ r ≤ 9) ∧ ws.length = usedS r
  · obtain ⟨hk, hl⟩ := hc
    obtain ⟨k, rfl⟩ : ∃ k : Nat, r = k := ⟨r.toNat, by omega⟩
    have hu := used_le (k : Int)
    have := fix_upto (F := fun next2 s => edit_readStep_l2 (w0 :: ws) next2 s) (o := some ((lineOf w0 ws k).getD ⟨0, 0, 0, 0, 0⟩, (lineOf w0 ws k).isSome)) 1 k (by omega) (fun next j h1 h2 => hround next j h1 (by omega) (.inl (by omega))) (fun next => ?_)
    · exact this
    · show edit_readStep_l2 (w0 :: ws) next (k : Int) = _
      unfold edit_readStep_l2
      rw [cnd_if, if_pos (by omega), word_eq (by omega), bnd_pure, e0, bnd_pure, cnd_if, if_neg (by simpa using (hr k (by omega)).2 rfl), gI_ok (by omega), bnd_pure, cnd_if, if_neg (by rw [List.length_cons, hl]; simp), show ((usedS k : Nat) : Int) = ((ws.length : Nat) : Int) from by rw [hl], cutQ _ (by omega), bnd_pure, words_loop w0 ws (by omega)]
      unfold lineOf
      by_cases ha : ∀ x ∈ ws, numOk 4 x
      · rw [if_pos ha, if_pos ⟨by omega, hl, ha⟩]; rfl
      · rw [if_neg ha, if_neg (fun h => ha h.2.2)]; rfl
  · have hn : lineOf w0 ws r = none := by unfold lineOf; rw [if_neg (fun h => hc ⟨h.1, h.2.1⟩)]
    rw [hn]
    have := fix_upto (F := fun next2 s => edit_readStep_l2 (w0 :: ws) next2 s) (o := some ((⟨0, 0, 0, 0, 0⟩ : T_edit_Step), false)) 1 10 (by omega) (fun next j h1 h2 => hround next j h1 (by omega) (by
      by_cases hj : (j : Int) = r
      · right; intro e; exact hc ⟨by omega, by rw [← hj]; exact e⟩
      · exact .inl hj)) (fun next => ?_)
    · exact this
    · show edit_readStep_l2 (w0 :: ws) next ((10 : Nat) : Int) = _
      unfold edit_readStep_l2
      rw [cnd_if, if_neg (by omega)]; rfl

/-! ### recipes read -/

theorem used_R {k : Int} (h : 1 ≤ k ∧ k ≤ 9) : R_numbersUsed k = some (usedS k : Int) := by
  rcases nine h with h | h | h | h | h | h | h | h | h <;> subst h <;> rfl

theorem spec_line {x3 : Int} {l3 : List T_edit_Step} {next2 : List UInt8 × Int × List T_edit_Step → Option (List T_edit_Step × Int × Int)} {t24 : List UInt8 × List UInt8 × Bool} {w0 : List UInt8} {ws : List (List UInt8)} (hw : ws.length ≤ 1000000) {r : Int} (hr9 : r ≤ 9) (he : t24.2.2 = true) :
    cnd (!t24.2.2) (some (([] : List T_edit_Step), x3, 8)) (cnd (decide (r < 1)) (some (([] : List T_edit_Step), x3, 8)) (bnd (gI ((((w0 :: ws).length : Nat) : Int) - 1)) fun t45 => bnd (R_numbersUsed r) fun t47 =>
      cnd (decide (t45 ≠ t47)) (some (([] : List T_edit_Step), x3, 8)) (bnd (gCut (w0 :: ws) 1 (w0 :: ws).length) fun t52 =>
      fix (fun next5 s => R_StepsRead_l5 x3 l3 next2 t24 (w0 :: ws) r t45 t47 t52 next5 s.1 s.2) (0, (fun _ => 0))))) =
    match lineOf w0 ws r with
    | none => some ([], x3, 8)
    | some y => bnd (gApp 40 l3 [y]) fun l => bnd (gI (x3 + 1)) fun t => next2 (t24.2.1, t, l) := by
  rw [he]
  show cnd false _ _ = _
  rw [cnd_false, cnd_if]
  by_cases h1 : r < 1
  · rw [if_pos h1]
    unfold lineOf
    rw [if_neg (fun h => by omega)]
  rw [if_neg h1, List.length_cons, gI_ok (by omega), bnd_pure, used_R (by omega), bnd_pure, cnd_if]
  have hu := used_le r
  by_cases hl : ws.length = usedS r
  · rw [if_neg (by omega), gCut_ok (by simp; omega), bnd_pure]
    have : ((w0 :: ws).drop (Int.toNat 1)).take (((ws.length + 1 : Nat) : Int).toNat - Int.toNat 1) = ws := by
      show (ws).take _ = ws
      exact List.take_of_length_le (by omega)
    rw [this, spec_loop ws (by omega)]
    unfold lineOf
    by_cases ha : ∀ x ∈ ws, numOk 4 x
    · rw [if_pos ha, if_pos ⟨by omega, hl, ha⟩]
    · rw [if_neg ha, if_neg (fun h => ha h.2.2)]
  · rw [if_pos (by omega)]
    unfold lineOf
    rw [if_neg (fun h => hl h.2.1)]

theorem Read_sim (s : List UInt8) : ∃ r : List T_edit_Step × Int × Int, (r.1.length ≤ 1000000 ∧ (r.2.2 ≠ 0 → r.1 = [])) ∧ edit_Read s = some r ∧ R_StepsRead s = some r := by
  unfold edit_Read R_StepsRead
  rw [cnd_if, cnd_if]
  by_cases hs : 1000000 < (s.length : Int)
  · rw [if_pos hs, if_pos hs]
    exact ⟨_, ⟨by simp, fun _ => rfl⟩, rfl, rfl⟩
  rw [if_neg hs, if_neg hs]
  refine fix_sim (fun a b : List UInt8 × Int × List T_edit_Step => a = b ∧ 1 ≤ a.2.1 ∧ a.2.1 + a.1.length ≤ 1000001 ∧ a.2.2.length + a.1.length ≤ 1000000) (fun a : List UInt8 × Int × List T_edit_Step => a.1.length) (fun r : List T_edit_Step × Int × Int => r.1.length ≤ 1000000 ∧ (r.2.2 ≠ 0 → r.1 = [])) ?_ _ _ ⟨rfl, Int.le_refl 1, by show (1 : Int) + (s.length : Int) ≤ 1000001; omega, by show 0 + s.length ≤ 1000000; omega⟩
  rintro ⟨x, n, l⟩ _ ⟨rfl, hn1, hn2, hl⟩
  simp only at hn1 hn2 hl
  by_cases hx : x = []
  · left
    subst hx
    simp only [List.length_nil] at hn2 hl
    have e1 : edit_Read_j1 l = some (if stepsE l ≠ 0 then [] else l, 0, stepsE l) := by
      unfold edit_Read_j1
      rw [Check_eq, bnd_pure, cnd_if]
      split
      · rfl
      · rename_i h; rw [show stepsE l = 0 from by simpa using h]
    have e2 : R_StepsRead_j1 l = some (if stepsE l ≠ 0 then [] else l, 0, stepsE l) := by
      unfold R_StepsRead_j1
      rw [StepsFault_eq, bnd_pure, cnd_if]
      split
      · rfl
      · rename_i h; rw [show stepsE l = 0 from by simpa using h]
    refine ⟨(if stepsE l ≠ 0 then [] else l, 0, stepsE l), ⟨?_, fun h => if_pos h⟩, fix_done fun next => ?_, fix_done fun next => ?_⟩
    rotate_left
    · show edit_Read_l2 next [] n l = _
      unfold edit_Read_l2
      rw [cnd_if, if_neg (by simp), e1]
    · show R_StepsRead_l2 next [] n l = _
      unfold R_StepsRead_l2
      rw [cnd_if, if_neg (by simp), e2]
    · show (if stepsE l ≠ 0 then [] else l).length ≤ _
      split
      · exact Nat.zero_le _
      · omega
  · have hcl := cutS_len 10 x
    obtain ⟨w, hw, hw0, hwl, _⟩ := Split_ok 32 (cutS 10 x).1 (by omega)
    cases w with
    | nil => exact absurd rfl hw0
    | cons w0 ws =>
      obtain ⟨r, hr, hr9, hrk⟩ := kind_of w0
      have f1 : ∀ next, edit_Read_l2 next x n l = cnd (!(cutS 10 x).2.2) (some (([] : List T_edit_Step), n, 8)) (match lineOf w0 ws r with
          | none => some ([], n, 8)
          | some y => bnd (gApp 40 l [y]) fun l => bnd (gI (n + 1)) fun t => next ((cutS 10 x).2.1, t, l)) := fun next => by
        unfold edit_Read_l2
        rw [cnd_if, if_pos hx, Cut_eq (by omega), bnd_pure, readStep_eq hw hr9 hrk, bnd_pure]
        cases lineOf w0 ws r with
        | none => show cnd _ _ (cnd true _ _) = _; rw [cnd_true]
        | some y => show cnd _ _ (cnd false _ _) = _; rw [cnd_false]; rfl
      have f2 : ∀ next, R_StepsRead_l2 next x n l = cnd (!(cutS 10 x).2.2) (some (([] : List T_edit_Step), n, 8)) (match lineOf w0 ws r with
          | none => some ([], n, 8)
          | some y => bnd (gApp 40 l [y]) fun l => bnd (gI (n + 1)) fun t => next ((cutS 10 x).2.1, t, l)) := fun next => by
        unfold R_StepsRead_l2
        rw [cnd_if, if_pos hx, Cut_eq (by omega), bnd_pure, hw, bnd_pure, Words_eq, bnd_pure, show gAt (w0 :: ws) 0 = some w0 from rfl, bnd_pure, hr, bnd_pure]
        by_cases he : (cutS 10 x).2.2 = true
        · rw [spec_line (by rw [List.length_cons] at hwl; omega) hr9 he, he]
          show _ = cnd false _ _
          rw [cnd_false]
        · have he : (cutS 10 x).2.2 = false := by simpa using he
          rw [he]
          show cnd true _ _ = cnd true _ _
          rw [cnd_true, cnd_true]
      by_cases he : (cutS 10 x).2.2 = true
      · cases hlo : lineOf w0 ws r with
        | none =>
          left
          refine ⟨([], n, 8), ⟨by simp, fun _ => rfl⟩, fix_done fun next => ?_, fix_done fun next => ?_⟩
          · show edit_Read_l2 next x n l = _
            rw [f1, hlo, he]; rfl
          · show R_StepsRead_l2 next x n l = _
            rw [f2, hlo, he]; rfl
        | some y =>
          right
          have hln := congrArg List.length (cutS_yes he)
          rw [List.length_append, List.length_cons] at hln
          have e4 : ∀ next : List UInt8 × Int × List T_edit_Step → Option (List T_edit_Step × Int × Int), (bnd (gApp 40 l [y]) fun l => bnd (gI (n + 1)) fun t => next ((cutS 10 x).2.1, t, l)) = next ((cutS 10 x).2.1, n + 1, l ++ [y]) := fun next => by
            rw [gApp_ok (by rw [List.length_singleton]; omega), bnd_pure, gI_ok (by omega), bnd_pure]
          refine ⟨((cutS 10 x).2.1, n + 1, l ++ [y]), ((cutS 10 x).2.1, n + 1, l ++ [y]), ⟨rfl, by show 1 ≤ n + 1; omega, by show n + 1 + ((cutS 10 x).2.1.length : Int) ≤ 1000001; omega, by show (l ++ [y]).length + (cutS 10 x).2.1.length ≤ 1000000; rw [List.length_append, List.length_singleton]; omega⟩, by show (cutS 10 x).2.1.length < x.length; omega, fix_goto _ fun next => ?_, fix_goto _ fun next => ?_⟩
          · show edit_Read_l2 next x n l = _
            rw [f1, hlo, he]
            show cnd false _ (bnd _ _) = _
            rw [cnd_false, e4]
          · show R_StepsRead_l2 next x n l = _
            rw [f2, hlo, he]
            show cnd false _ (bnd _ _) = _
            rw [cnd_false, e4]
      · left
        have he : (cutS 10 x).2.2 = false := by simpa using he
        refine ⟨([], n, 8), ⟨by simp, fun _ => rfl⟩, fix_done fun next => ?_, fix_done fun next => ?_⟩
        · show edit_Read_l2 next x n l = _
          rw [f1, he]; rfl
        · show R_StepsRead_l2 next x n l = _
          rw [f2, he]; rfl

/-! ### recipes written -/

def textS (l : List T_edit_Step) : List UInt8 := l.foldl (fun t s => t ++ (lineS s ++ [10])) []

theorem Text_eq (l : List T_edit_Step) : edit_Text l = some (if stepsE l = 0 then textS l else [], stepsE l) := by
  unfold edit_Text
  rw [Check_eq, bnd_pure, cnd_if]
  by_cases h : stepsE l = 0
  · obtain ⟨h1, h2⟩ := stepsE_ok h
    rw [if_neg (by simpa using h), if_pos h, h]
    refine fix_list (F := fun next2 s => edit_Text_l2 l next2 s.1 s.2) l (fun t s => t ++ (lineS s ++ [10])) (fun t => some (t, 0)) (fun k t => t.length ≤ 101 * k) (fun next k t hk ht => ?_) (fun next t ht => ?_) [] (by simp)
    · have hs := h2 _ (List.getElem_mem hk)
      have hll := lineS_len hs
      have e1 : (lineS l[k] ++ [10]).length ≤ 101 := by rw [List.length_append, List.length_singleton]; omega
      refine ⟨?_, by show (t ++ _).length ≤ _; rw [List.length_append]; omega⟩
      show edit_Text_l2 l next (k : Int) t = _
      unfold edit_Text_l2
      rw [cnd_if, if_pos (by omega), gAt_nat hk, bnd_pure, line_eq hs, bnd_pure, gCat_ok (by rw [List.length_singleton]; omega), bnd_pure, gBld_ok ⟨by simp, by omega⟩, bnd_pure, gI_ok (by omega), bnd_pure]
    · show edit_Text_l2 l next (l.length : Int) t = _
      unfold edit_Text_l2
      rw [cnd_if, if_neg (by omega)]; rfl
  · rw [if_pos h, if_neg h]

theorem StepsText_eq {l : List T_edit_Step} (h : stepsE l = 0) : R_StepsText l = some (textS l) := by
  obtain ⟨h1, h2⟩ := stepsE_ok h
  unfold R_StepsText
  have key : ∀ m k : Nat, k + m = l.length → ∀ t : List UInt8, t.length ≤ 101 * k → fix (fun next1 s => R_StepsText_l1 l next1 s.1 s.2) (t, (k : Int)) = some ((l.drop k).foldl (fun t s => t ++ (lineS s ++ [10])) t) := by
    intro m
    induction m with
    | zero =>
      intro k hk t _
      have : k = l.length := by omega
      subst this
      rw [List.drop_length]
      refine fix_done fun next => ?_
      show R_StepsText_l1 l next t (l.length : Int) = _
      unfold R_StepsText_l1
      rw [cnd_if, if_neg (by omega)]; rfl
    | succ m ih =>
      intro k hk t ht
      have hlt : k < l.length := by omega
      have hs := h2 _ (List.getElem_mem hlt)
      have hll := lineS_len hs
      have e1 : (lineS l[k] ++ [10]).length ≤ 101 := by rw [List.length_append, List.length_singleton]; omega
      rw [List.drop_eq_getElem_cons hlt, List.foldl_cons, ← ih (k + 1) (by omega) _ (by rw [List.length_append]; omega)]
      refine fix_goto _ fun next => ?_
      show R_StepsText_l1 l next t (k : Int) = _
      unfold R_StepsText_l1
      rw [cnd_if, if_pos (by omega), gAt_nat hlt, bnd_pure, stepLine_eq hs, bnd_pure, gCat_ok (by rw [List.length_singleton]; omega), bnd_pure, gCat_ok (by omega), bnd_pure, gI_ok (by omega), bnd_pure]
      rfl
  exact key l.length 0 (by omega) [] (by simp)

theorem told_str {v w : List UInt8} {e f : Int} (h0 : f = 0 → v = w) (h1 : f ≠ 0 → v = []) (he : e = f) : Law_told_string v e w f = some true := by
  subst he
  have key : Law_told_string_j1 v e e v = some true := by
    unfold Law_told_string_j1; simp [cnd]
  unfold Law_told_string
  rw [cnd_if]
  by_cases h : e ≠ 0
  · rw [if_pos h]; have := h1 h; subst this; exact key
  · rw [if_neg h, ← h0 (by simpa using h)]; exact key

/-! ### the law -/

theorem j2_true (a b : List T_edit_Step) (s x : List UInt8) (ha : a.length ≤ 3518437208780) (hx : stepsE a = 0 → x = textS a) : Law_EditSteps_j2 a b s (stepsE a) x = some true := by
  unfold Law_EditSteps_j2
  rw [Text_eq, bnd_pure, Check_eq, bnd_pure, cnd_if, if_neg (by simp), told_str (fun h => by rw [if_pos h, hx h]) (fun h => if_neg h) rfl, bnd_pure]
  show cnd false _ _ = _
  rw [cnd_false]
  obtain ⟨c, hc, _⟩ := Same_ex a b ha
  rw [hc, bnd_pure, show slices_Equal_edit_Step a b = some c from by rw [← Same_Equal]; exact hc, bnd_pure, cnd_if, if_neg (by simp), Same_t ha rfl, bnd_pure]
  show cnd false _ _ = _
  rw [cnd_false]
  have := fix_upto (F := fun next3 s_1 => Law_EditSteps_l3 s x next3 s_1) (o := some true) 0 2 (by omega) (fun next k _ hk => ?_) (fun next => ?_)
  · exact this
  · show Law_EditSteps_l3 s x next (k : Int) = _
    unfold Law_EditSteps_l3
    obtain ⟨y, hy⟩ : ∃ y, gAt [s, x] (k : Int) = some y := ⟨_, gAt_nat (by simpa using hk)⟩
    obtain ⟨r, ⟨r1, r2⟩, r3, r4⟩ := Read_sim y
    rw [cnd_if, if_pos (by omega), hy, bnd_pure, r3, bnd_pure, r4, bnd_pure, cnd_if, if_neg (by simp), listedSteps (by omega) (fun _ => rfl) r2 rfl, bnd_pure]
    show cnd false _ _ = _
    rw [cnd_false, gI_ok (by omega), bnd_pure]
  · show Law_EditSteps_l3 s x next ((2 : Nat) : Int) = _
    unfold Law_EditSteps_l3
    rw [cnd_if, if_neg (by omega)]

theorem editSteps_all (a b : List T_edit_Step) (s : List UInt8) (ha : a.length ≤ 3518437208780) : Law_EditSteps a b s = some true := by
  unfold Law_EditSteps
  refine fix_upto (F := fun next4 s_1 => Law_EditSteps_l4 a b s next4 s_1) (o := some true) 0 a.length (by omega) (fun next k _ hk => ?_) (fun next => ?_)
  · show Law_EditSteps_l4 a b s next (k : Int) = _
    unfold Law_EditSteps_l4
    rw [cnd_if, if_pos (by omega), gAt_nat hk, bnd_pure, CheckStep_eq, bnd_pure, StepFault_eq, bnd_pure, cnd_if, if_neg (by simp), Shape_eq, bnd_pure, Shaped_eq, bnd_pure, cnd_if, if_neg (by simp), gI_ok (by omega), bnd_pure]
  · show Law_EditSteps_l4 a b s next (a.length : Int) = _
    unfold Law_EditSteps_l4
    rw [cnd_if, if_neg (by omega)]
    unfold Law_EditSteps_j1
    rw [StepsFault_eq, bnd_pure, cnd_if]
    by_cases h : stepsE a = 0
    · rw [if_pos h, StepsText_eq h, bnd_pure, j2_true a b s _ ha (fun _ => rfl)]
    · rw [if_neg h, j2_true a b s _ ha (fun e => absurd e h)]
theorem editStepsS (a b : List T_edit_Step) (s : List UInt8) {φ χ : T_edit_Step → Prop} {ψ : Prop} (ha : (a.length ≤ 9223372036854775807 ∧ a.length * 40 ≤ 140737488351232) ∧ ∀ x ∈ a, φ x) (_ : (b.length ≤ 9223372036854775807 ∧ b.length * 40 ≤ 140737488351232) ∧ ∀ x ∈ b, χ x) (_ : ψ) : Law_EditSteps a b s = some true :=
  editSteps_all a b s (by omega)
end Go.M
