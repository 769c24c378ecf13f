/- The law SyncFacts, in plain Lean. Conditions: none. -/
import Derived.Test.YtaonhnkojkkmbaaDoorSfP
namespace Go.M
open Go.Md Go.Pl

theorem out_sync (a b c : Int) : sync_outside a b c = some (decide (a < b ∨ c < a)) := by
  unfold sync_outside
  rw [cnd_if]
  by_cases h : a < b
  · rw [if_pos h]; simp [h]
  · rw [if_neg h]; simp [h]
theorem cI {α : Type} {p : Prop} [Decidable p] {x y : Option α} : cnd (decide p) x y = if p then x else y := cnd_if ..

/-! ### a file's name -/

def hexCs : List UInt8 := [48, 49, 50, 51, 52, 53, 54, 55, 56, 57, 97, 98, 99, 100, 101, 102]
def fileP (t : List UInt8) : Prop := t.length = 16 ∧ ∀ c ∈ t, c ∈ hexCs
instance (t : List UInt8) : Decidable (fileP t) := by unfold fileP; infer_instance
theorem trim_hex {t : List UInt8} (h : t.length = 16) : ∃ r, strings_Trim t [48, 49, 50, 51, 52, 53, 54, 55, 56, 57, 97, 98, 99, 100, 101, 102] = some r ∧ (r = [] ↔ fileP t) := by
  obtain ⟨r, h1, h2⟩ := trim_ok (cs := hexCs) (by decide) (by decide) (by decide) t (by omega)
  exact ⟨r, h1, h2.trans ⟨fun x => ⟨h, x⟩, fun x => x.2⟩⟩
theorem isFile_eq (t : List UInt8) : sync_isFile t = some (decide (fileP t)) := by
  unfold sync_isFile
  rw [cI]
  by_cases h : t.length = 16
  · obtain ⟨r, h1, h2⟩ := trim_hex h
    rw [if_pos (by omega), h1, bnd_pure]
    congr 1
    rw [decide_eq_decide]; exact h2
  · rw [if_neg (by omega)]
    congr 1
    symm
    rw [decide_eq_false_iff_not]
    exact fun x => h x.1

/-! ### a caption -/

def lowP (t : List UInt8) : Prop := ∃ c ∈ t, c.toNat < 32
instance (t : List UInt8) : Decidable (lowP t) := by unfold lowP; infer_instance
def capE (t : List UInt8) : Int := if 200 < t.length then 4 else if lowP t then 9 else 0

theorem func_low (l : List Int) (hl : l.length ≤ 1000) : ∃ r : Int, slices_IndexFunc_byte l sync_checkCaption_1 = some r ∧ (0 ≤ r ↔ ∃ x ∈ l, x < 32) := by
  have key : ∀ m i : Nat, i + m = l.length → (∀ x ∈ l.take i, ¬ x < 32) → ∃ r : Int, fix (fun next1 s => slices_IndexFunc_byte_l1 l sync_checkCaption_1 next1 s) (i : Int) = some r ∧ (0 ≤ r ↔ ∃ x ∈ l, x < 32) := by
    intro m
    induction m with
    | zero =>
      intro i hi hx
      have : i = l.length := by omega
      subst this
      rw [List.take_length] at hx
      refine ⟨-1, fix_done fun next => ?_, ⟨fun h => by omega, fun ⟨x, h1, h2⟩ => absurd h2 (hx x h1)⟩⟩
      show slices_IndexFunc_byte_l1 l _ next _ = _
      unfold slices_IndexFunc_byte_l1
      rw [cI, if_neg (by omega)]
    | succ m ih =>
      intro i hi hx
      have hlt : i < l.length := by omega
      have hc : sync_checkCaption_1 l[i] = some (decide (l[i] < 32)) := rfl
      by_cases he : l[i] < 32
      · refine ⟨i, fix_done fun next => ?_, ⟨fun _ => ⟨_, List.getElem_mem hlt, he⟩, fun _ => by omega⟩⟩
        show slices_IndexFunc_byte_l1 l _ next _ = _
        unfold slices_IndexFunc_byte_l1
        rw [cI, if_pos (by omega), gAt_nat hlt, bnd_pure, hc, bnd_pure, cI, if_pos he]
      · obtain ⟨r, h1, h2⟩ := ih (i + 1) (by omega) (by
          intro x hx'
          rw [List.take_succ_eq_append_getElem hlt, List.mem_append] at hx'
          rcases hx' with h | h
          · exact hx x h
          · rw [List.mem_singleton] at h; rw [h]; exact he)
        refine ⟨r, ?_, h2⟩
        rw [← h1]
        refine fix_goto _ fun next => ?_
        show slices_IndexFunc_byte_l1 l _ next _ = _
        unfold slices_IndexFunc_byte_l1
        rw [cI, if_pos (by omega), gAt_nat hlt, bnd_pure, hc, bnd_pure, cI, if_neg he, gI_ok (by omega), bnd_pure]
        rfl
  exact key l.length 0 (by omega) (by simp)

theorem checkCaption_eq (t : List UInt8) : sync_checkCaption t = some (capE t) := by
  unfold sync_checkCaption capE
  rw [cI]
  by_cases h : 200 < t.length
  · rw [if_pos (by omega), if_pos h]
  · obtain ⟨r, h1, h2⟩ := func_low (ofStr t) (by unfold ofStr; rw [List.length_map]; omega)
    rw [if_neg (by omega), if_neg h, gByt_ok (by omega), bnd_pure]
    unfold slices_ContainsFunc_byte
    rw [h1, bnd_pure, bnd_pure, cI]
    have e : (0 ≤ r) ↔ lowP t := by
      rw [h2]
      unfold ofStr lowP
      constructor
      · rintro ⟨x, hx, hl⟩
        obtain ⟨c, hc, rfl⟩ := List.mem_map.1 hx
        exact ⟨c, hc, by omega⟩
      · rintro ⟨c, hc, hl⟩
        exact ⟨_, List.mem_map.2 ⟨c, hc, rfl⟩, by omega⟩
    by_cases hl : lowP t
    · rw [if_pos (e.2 hl), if_pos hl]
    · rw [if_neg (fun x => hl (e.1 x)), if_neg hl]

theorem low_loop (f : T_sync_Fact) (hl : f.Text.length ≤ 1000) : fix (fun next2 s => R_FactFault_l2 f next2 s) 0 = some (if lowP f.Text then 9 else 0) := by
  have key : ∀ m i : Nat, i + m = f.Text.length → (∀ x ∈ f.Text.take i, ¬ x.toNat < 32) → fix (fun next2 s => R_FactFault_l2 f next2 s) (i : Int) = some (if lowP f.Text then 9 else 0) := by
    intro m
    induction m with
    | zero =>
      intro i hi hx
      have : i = f.Text.length := by omega
      subst this
      rw [List.take_length] at hx
      refine fix_done fun next => ?_
      show R_FactFault_l2 f next _ = _
      unfold R_FactFault_l2
      rw [cI, if_neg (by omega), if_neg (fun ⟨x, h1, h2⟩ => hx x h1 h2)]
    | succ m ih =>
      intro i hi hx
      have hlt : i < f.Text.length := by omega
      by_cases he : f.Text[i].toNat < 32
      · refine fix_done fun next => ?_
        show R_FactFault_l2 f next _ = _
        unfold R_FactFault_l2
        rw [cI, if_pos (by omega), gOct_nat hlt, bnd_pure, cI, if_pos (by omega), if_pos ⟨_, List.getElem_mem hlt, he⟩]
      · rw [← ih (i + 1) (by omega) (by
          intro x hx'
          rw [List.take_succ_eq_append_getElem hlt, List.mem_append] at hx'
          rcases hx' with h | h
          · exact hx x h
          · rw [List.mem_singleton] at h; rw [h]; exact he)]
        refine fix_goto _ fun next => ?_
        show R_FactFault_l2 f next _ = _
        unfold R_FactFault_l2
        rw [cI, if_pos (by omega), gOct_nat hlt, bnd_pure, cI, if_neg (by omega), gI_ok (by omega), bnd_pure]
        rfl
  exact key f.Text.length 0 (by omega) (by simp)

/-! ### one of some kinds -/

theorem uses_eq (f : T_sync_Fact) (l : List Int) (hl : l.length ≤ 1000) : R_FactFault_1 f l = some (decide (f.Kind ∈ l)) := by
  have key : ∀ m i : Nat, i + m = l.length → f.Kind ∉ l.take i → ∃ r : Int, fix (fun next1 s => slices_Index_int_l1 l f.Kind next1 s) (i : Int) = some r ∧ (0 ≤ r ↔ f.Kind ∈ l) := by
    intro m
    induction m with
    | zero =>
      intro i hi hx
      have : i = l.length := by omega
      subst this
      rw [List.take_length] at hx
      refine ⟨-1, fix_done fun next => ?_, ⟨fun h => by omega, fun h => absurd h hx⟩⟩
      show slices_Index_int_l1 l _ next _ = _
      unfold slices_Index_int_l1
      rw [cI, if_neg (by omega)]
    | succ m ih =>
      intro i hi hx
      have hlt : i < l.length := by omega
      by_cases he : f.Kind = l[i]
      · refine ⟨i, fix_done fun next => ?_, ⟨fun _ => he ▸ List.getElem_mem hlt, fun _ => by omega⟩⟩
        show slices_Index_int_l1 l _ next _ = _
        unfold slices_Index_int_l1
        rw [cI, if_pos (by omega), gAt_nat hlt, bnd_pure, cI, if_pos he]
      · obtain ⟨r, h1, h2⟩ := ih (i + 1) (by omega) (by
          rw [List.take_succ_eq_append_getElem hlt, List.mem_append, not_or]
          exact ⟨hx, by simpa using he⟩)
        refine ⟨r, ?_, h2⟩
        rw [← h1]
        refine fix_goto _ fun next => ?_
        show slices_Index_int_l1 l _ next _ = _
        unfold slices_Index_int_l1
        rw [cI, if_pos (by omega), gAt_nat hlt, bnd_pure, cI, if_neg he, gI_ok (by omega), bnd_pure]
        rfl
  obtain ⟨r, h1, h2⟩ := key l.length 0 (by omega) (by simp)
  unfold R_FactFault_1 slices_Contains_int slices_Index_int
  have h1 : fix (fun next1 s => slices_Index_int_l1 l f.Kind next1 s) 0 = some r := h1
  rw [h1, bnd_pure, bnd_pure]
  congr 1
  rw [decide_eq_decide]; exact h2

/-! ### facts -/

def formP (f : T_sync_Fact) : Prop := (¬ (f.Kind = 2 ∨ f.Kind = 4 ∨ f.Kind = 6) ∧ f.Num ≠ 0) ∨ (¬ (f.Kind = 5 ∨ f.Kind = 6) ∧ f.Name ≠ []) ∨ (¬ (f.Kind = 1 ∨ f.Kind = 3) ∧ f.Text ≠ [])
instance (f : T_sync_Fact) : Decidable (formP f) := by unfold formP; infer_instance
def kindE (f : T_sync_Fact) : Int :=
  if f.Kind = 1 then (if fileP f.Text then 0 else 1)
  else if f.Kind = 2 then (if f.Num < 0 ∨ 5 < f.Num then 2 else 0)
  else if f.Kind = 3 then capE f.Text
  else if f.Kind = 4 then (if f.Num < 0 ∨ 1 < f.Num then 2 else 0)
  else if nameB f.Name = true then (if f.Kind = 6 then (if f.Num < 0 ∨ 6311433599 < f.Num then 2 else 0) else 0) else 3
def valE (f : T_sync_Fact) : Int := if f.Kind < 1 ∨ 6 < f.Kind then 10 else if formP f then 1 else if f.Id < 1 ∨ 1000000 < f.Id then 2 else kindE f
def factE (f : T_sync_Fact) : Int := if f.Dot.Device < 0 ∨ 15 < f.Dot.Device ∨ f.Dot.N < 1 ∨ 1000000 < f.Dot.N ∨ f.Time < 1 ∨ 1000000 < f.Time then 2 else valE f

theorem j3_val (f : T_sync_Fact) (x3 x4 x5 : Bool) : sync_checkValue_j3 f x3 x4 x5 = if f.Kind < 1 ∨ 6 < f.Kind then some 10 else sync_checkValue_j4 f x4 (decide ((x3 = false ∧ f.Num ≠ 0) ∨ (x4 = false ∧ f.Name ≠ []) ∨ (x5 = false ∧ f.Text ≠ []))) := by
  unfold sync_checkValue_j3
  rw [out_sync, bnd_pure, cI]
  congr 1
  by_cases h1 : f.Num = 0 <;> by_cases h2 : f.Name = [] <;> by_cases h3 : f.Text = [] <;> cases x3 <;> cases x4 <;> cases x5 <;> simp [h1, h2, h3, cnd_true, cnd_false]

theorem tail_val {f : T_sync_Fact} (hk : 1 ≤ f.Kind ∧ f.Kind ≤ 6) (b : Bool) : sync_checkValue_j4 f (decide (f.Kind = 5 ∨ f.Kind = 6)) b = some (if b = true then 1 else if f.Id < 1 ∨ 1000000 < f.Id then 2 else kindE f) := by
  unfold sync_checkValue_j4
  cases b
  · rw [cnd_false, out_sync, bnd_pure, cI, if_neg (show ¬ (false = true) from Bool.false_ne_true)]
    by_cases hid : f.Id < 1 ∨ 1000000 < f.Id
    · rw [if_pos hid, if_pos hid]
    rw [if_neg hid, if_neg hid]
    unfold kindE
    have e8 : ∀ b : Bool, sync_checkValue_j8 f b = some (if b = true then 3 else if f.Kind = 6 then (if f.Num < 0 ∨ 6311433599 < f.Num then 2 else 0) else 0) := fun b => by
      unfold sync_checkValue_j8
      cases b
      · rw [cnd_false, cI, out_sync, bnd_pure, cI, if_neg (show ¬ (false = true) from Bool.false_ne_true)]
        by_cases h6 : f.Kind = 6
        · rw [if_pos h6, if_pos h6]; split <;> rfl
        · rw [if_neg h6, if_neg h6]
      · rw [cnd_true]; rfl
    rcases (show f.Kind = 1 ∨ f.Kind = 2 ∨ f.Kind = 3 ∨ f.Kind = 4 ∨ f.Kind = 5 ∨ f.Kind = 6 by omega) with h | h | h | h | h | h
    · rw [cI, if_pos h, isFile_eq, bnd_pure, if_pos h]
      unfold sync_checkValue_j5
      by_cases hf : fileP f.Text
      · rw [decide_eq_true hf, if_pos hf]
        show cnd false _ _ = _
        rw [cnd_false, cI, if_neg (by omega)]
        unfold sync_checkValue_j6
        rw [cnd_false, cI, if_neg (by omega), cI, if_neg (by omega)]
        unfold sync_checkValue_j7
        rw [cnd_false, decide_eq_false (by omega), cnd_false, e8, if_neg (show ¬ (false = true) from Bool.false_ne_true), if_neg (by omega)]
      · rw [decide_eq_false hf, if_neg hf]
        show cnd true _ _ = _
        rw [cnd_true]
    · rw [cI, if_neg (by omega), if_neg (by omega), if_pos h]
      unfold sync_checkValue_j5
      rw [cnd_false, cI, if_pos h, out_sync, bnd_pure]
      unfold sync_checkValue_j6
      rw [cI]
      by_cases hn : f.Num < 0 ∨ 5 < f.Num
      · rw [if_pos hn, if_pos hn]
      · rw [if_neg hn, if_neg hn, cI, if_neg (by omega), cI, if_neg (by omega)]
        unfold sync_checkValue_j7
        rw [cnd_false, decide_eq_false (by omega), cnd_false, e8, if_neg (show ¬ (false = true) from Bool.false_ne_true), if_neg (by omega)]
    · rw [cI, if_neg (by omega), if_neg (by omega), if_neg (by omega), if_pos h]
      unfold sync_checkValue_j5
      rw [cnd_false, cI, if_neg (by omega)]
      unfold sync_checkValue_j6
      rw [cnd_false, cI, if_pos h, checkCaption_eq, bnd_pure]
    · rw [cI, if_neg (by omega), if_neg (by omega), if_neg (by omega), if_neg (by omega), if_pos h]
      unfold sync_checkValue_j5
      rw [cnd_false, cI, if_neg (by omega)]
      unfold sync_checkValue_j6
      rw [cnd_false, cI, if_neg (by omega), cI, if_pos h, out_sync, bnd_pure]
      unfold sync_checkValue_j7
      rw [cI]
      by_cases hn : f.Num < 0 ∨ 1 < f.Num
      · rw [if_pos hn, if_pos hn]
      · rw [if_neg hn, if_neg hn, decide_eq_false (by omega), cnd_false, e8, if_neg (show ¬ (false = true) from Bool.false_ne_true), if_neg (by omega)]
    · rw [cI, if_neg (by omega), if_neg (by omega), if_neg (by omega), if_neg (by omega), if_neg (by omega), if_neg (show ¬ f.Kind = 6 by omega)]
      unfold sync_checkValue_j5
      rw [cnd_false, cI, if_neg (by omega)]
      unfold sync_checkValue_j6
      rw [cnd_false, cI, if_neg (by omega), cI, if_neg (by omega)]
      unfold sync_checkValue_j7
      rw [cnd_false, decide_eq_true (by omega), cnd_true, IsName_eq, bnd_pure, e8, if_neg (show ¬ f.Kind = 6 by omega)]
      cases nameB f.Name <;> simp
    · rw [cI, if_neg (by omega), if_neg (by omega), if_neg (by omega), if_neg (by omega), if_neg (by omega), if_pos h]
      unfold sync_checkValue_j5
      rw [cnd_false, cI, if_neg (by omega)]
      unfold sync_checkValue_j6
      rw [cnd_false, cI, if_neg (by omega), cI, if_neg (by omega)]
      unfold sync_checkValue_j7
      rw [cnd_false, decide_eq_true (by omega), cnd_true, IsName_eq, bnd_pure, e8, if_pos h]
      cases nameB f.Name <;> simp
  · rw [cnd_true]; rfl

theorem checkValue_eq (f : T_sync_Fact) : sync_checkValue f = some (valE f) := by
  have e : sync_checkValue f = sync_checkValue_j3 f (decide (f.Kind = 2 ∨ f.Kind = 4 ∨ f.Kind = 6)) (decide (f.Kind = 5 ∨ f.Kind = 6)) (decide (f.Kind = 1 ∨ f.Kind = 3)) := by
    unfold sync_checkValue sync_checkValue_j1 sync_checkValue_j2
    by_cases h2 : f.Kind = 2
    · simp [h2, cnd_true, cnd_false]
    by_cases h4 : f.Kind = 4
    · simp [h4, cnd_true, cnd_false]
    by_cases h5 : f.Kind = 5
    · simp [h5, cnd_true, cnd_false]
    by_cases h1 : f.Kind = 1
    · simp [h1, cnd_true, cnd_false]
    simp [h2, h4, h5, h1, cnd_true, cnd_false]
  rw [e, j3_val]
  unfold valE
  by_cases hk : f.Kind < 1 ∨ 6 < f.Kind
  · rw [if_pos hk, if_pos hk]
  · rw [if_neg hk, if_neg hk, tail_val (by omega)]
    congr 1
    have : (decide ((decide (f.Kind = 2 ∨ f.Kind = 4 ∨ f.Kind = 6) = false ∧ f.Num ≠ 0) ∨ (decide (f.Kind = 5 ∨ f.Kind = 6) = false ∧ f.Name ≠ []) ∨ (decide (f.Kind = 1 ∨ f.Kind = 3) = false ∧ f.Text ≠ []))) = decide (formP f) := by
      rw [decide_eq_decide, decide_eq_false_iff_not, decide_eq_false_iff_not, decide_eq_false_iff_not]; rfl
    rw [this]
    by_cases hf : formP f
    · rw [decide_eq_true hf, if_pos rfl, if_pos hf]
    · rw [decide_eq_false hf, if_neg (by simp), if_neg hf]

theorem CheckFact_eq (f : T_sync_Fact) : sync_CheckFact f = some (factE f) := by
  unfold sync_CheckFact factE
  rw [out_sync, bnd_pure, cI, out_sync, bnd_pure, cI, out_sync, bnd_pure, cI, checkValue_eq, bnd_pure]
  by_cases h1 : f.Dot.Device < 0 ∨ 15 < f.Dot.Device
  · rw [if_pos h1, if_pos (by omega)]
  by_cases h2 : f.Dot.N < 1 ∨ 1000000 < f.Dot.N
  · rw [if_neg h1, if_pos h2, if_pos (by omega)]
  by_cases h3 : f.Time < 1 ∨ 1000000 < f.Time
  · rw [if_neg h1, if_neg h2, if_pos h3, if_pos (by omega)]
  rw [if_neg h1, if_neg h2, if_neg h3, if_neg (by omega)]

theorem idOk_eq (n : Int) : R_idOk n = some (decide (¬ (n < 1 ∨ 1000000 < n))) := by
  unfold R_idOk
  rw [cI]
  by_cases h : 1 ≤ n
  · rw [if_pos h]; congr 1; rw [decide_eq_decide]; omega
  · rw [if_neg h]; congr 1; symm; rw [decide_eq_false_iff_not]; omega

theorem j1_fault {f : T_sync_Fact} (hk : 1 ≤ f.Kind ∧ f.Kind ≤ 6) (hf : ¬ formP f) : R_FactFault_j1 f = some (kindE f) := by
  unfold R_FactFault_j1 kindE
  rw [cI]
  by_cases h1 : f.Kind = 1
  · rw [if_pos h1, if_pos h1, cI]
    by_cases hl : f.Text.length = 16
    · obtain ⟨r, hr, hr2⟩ := trim_hex hl
      rw [if_neg (by omega), hr, bnd_pure, cI]
      by_cases hp : fileP f.Text
      · rw [if_neg (by simpa using hr2.2 hp), if_pos hp]
      · rw [if_pos (fun e => hp (hr2.1 e)), if_neg hp]
    · rw [if_pos (by omega), if_neg (fun h => hl h.1)]
  rw [if_neg h1, if_neg h1, cI]
  by_cases h2 : f.Kind = 2
  · rw [if_pos h2, if_pos h2, cI, cI]
    by_cases ha : f.Num < 0
    · rw [if_pos ha, if_pos (.inl ha)]
    · by_cases hb : 5 < f.Num
      · rw [if_neg ha, if_pos hb, if_pos (.inr hb)]
      · rw [if_neg ha, if_neg hb, if_neg (by omega)]
  rw [if_neg h2, if_neg h2, cI]
  by_cases h3 : f.Kind = 3
  · rw [if_pos h3, if_pos h3, cI]
    unfold capE
    by_cases hl : 200 < f.Text.length
    · rw [if_pos (by omega), if_pos hl]
    · rw [if_neg (by omega), if_neg hl, low_loop f (by omega)]
  rw [if_neg h3, if_neg h3, cI]
  by_cases h4 : f.Kind = 4
  · rw [if_pos h4, if_pos h4, cI, cI]
    by_cases ha : f.Num = 0
    · rw [if_neg (by simpa using ha), if_neg (by omega)]
    · by_cases hb : f.Num = 1
      · rw [if_pos ha, if_neg (by simpa using hb), if_neg (by omega)]
      · rw [if_pos ha, if_pos hb, if_pos (by omega)]
  rw [if_neg h4, if_neg h4, NameOk_eq, bnd_pure]
  cases nameB f.Name
  · rfl
  · show cnd false _ _ = _
    rw [cnd_false, if_pos rfl, cI, cI]
    by_cases h6 : f.Kind = 6
    · rw [if_pos h6]
      by_cases ha : f.Num < 0
      · rw [if_pos ha, if_pos (.inl ha)]
      · by_cases hb : 6311433599 < f.Num
        · rw [if_neg ha, if_pos hb, if_pos (.inr hb)]
        · rw [if_neg ha, if_neg hb, if_neg (by omega)]
    · have hn : f.Num = 0 := by
        rcases Int.lt_trichotomy f.Num 0 with h | h | h
        · exact absurd (.inl ⟨by omega, by omega⟩) hf
        · exact h
        · exact absurd (.inl ⟨by omega, by omega⟩) hf
      rw [if_neg h6, if_neg (by omega), if_neg (by omega)]

theorem j4_fault (f : T_sync_Fact) (b : Bool) : R_FactFault_j4 f b = if b = true ∨ (¬ (f.Kind = 5 ∨ f.Kind = 6) ∧ f.Name ≠ []) then some 1 else if f.Id < 1 ∨ 1000000 < f.Id then some 2 else R_FactFault_j1 f := by
  have ei : ∀ x : Option Int, (bnd (R_idOk f.Id) fun t => cnd (!t) (some 2) x) = if f.Id < 1 ∨ 1000000 < f.Id then some 2 else x := fun x => by
    rw [idOk_eq, bnd_pure]
    by_cases h : f.Id < 1 ∨ 1000000 < f.Id
    · rw [decide_eq_false (fun x => x h), if_pos h]; rfl
    · rw [decide_eq_true h, if_neg h]; rfl
  unfold R_FactFault_j4
  simp only [ei]
  cases b
  · rw [cnd_false, cI, uses_eq f _ (by simp), bnd_pure]
    by_cases hn : f.Name = []
    · rw [if_neg (show ¬ (f.Name ≠ []) by simpa using hn), if_neg (show ¬ (false = true ∨ ¬ (f.Kind = 5 ∨ f.Kind = 6) ∧ f.Name ≠ []) by simp [hn])]
    · rw [if_pos hn]
      by_cases hk : f.Kind = 5 ∨ f.Kind = 6
      · rw [decide_eq_true (by simpa using hk), if_neg (show ¬ (false = true ∨ ¬ (f.Kind = 5 ∨ f.Kind = 6) ∧ f.Name ≠ []) by simp [hk])]; rfl
      · rw [decide_eq_false (by simpa using hk), if_pos (show false = true ∨ ¬ (f.Kind = 5 ∨ f.Kind = 6) ∧ f.Name ≠ [] from .inr ⟨hk, hn⟩)]; rfl
  · rw [cnd_true, cnd_true, if_pos (.inl rfl)]

theorem j3_fault (f : T_sync_Fact) (b : Bool) : R_FactFault_j3 f b = if b = true then some 1 else R_FactFault_j4 f (decide (¬ (f.Kind = 2 ∨ f.Kind = 4 ∨ f.Kind = 6) ∧ f.Num ≠ 0)) := by
  unfold R_FactFault_j3
  cases b
  · rw [cnd_false, cI, uses_eq f _ (by simp), bnd_pure, if_neg (show ¬ (false = true) from Bool.false_ne_true)]
    by_cases hn : f.Num = 0
    · rw [if_neg (show ¬ (f.Num ≠ 0) by simpa using hn), decide_eq_false (by simp [hn])]
    · rw [if_pos hn]
      by_cases hk : f.Kind = 2 ∨ f.Kind = 4 ∨ f.Kind = 6
      · rw [decide_eq_true (by simpa using hk), decide_eq_false (by simp [hk])]; rfl
      · rw [decide_eq_false (by simpa using hk), decide_eq_true ⟨hk, hn⟩]; rfl
  · rw [cnd_true, cnd_true, if_pos rfl]

theorem FactFault_eq (f : T_sync_Fact) : R_FactFault f = some (factE f) := by
  unfold R_FactFault factE
  rw [cI, cI, cI, cI, cI, cI, cI, cI, cI]
  by_cases h1 : f.Dot.Device < 0
  · rw [if_pos h1, if_pos (by omega)]
  by_cases h2 : 16 ≤ f.Dot.Device
  · rw [if_neg h1, if_pos h2, if_pos (by omega)]
  by_cases h3 : f.Dot.N < 1
  · rw [if_neg h1, if_neg h2, if_pos h3, if_pos (by omega)]
  by_cases h4 : 1000000 < f.Dot.N
  · rw [if_neg h1, if_neg h2, if_neg h3, if_pos h4, if_pos (by omega)]
  by_cases h5 : f.Time < 1
  · rw [if_neg h1, if_neg h2, if_neg h3, if_neg h4, if_pos h5, if_pos (by omega)]
  by_cases h6 : 1000000 < f.Time
  · rw [if_neg h1, if_neg h2, if_neg h3, if_neg h4, if_neg h5, if_pos h6, if_pos (by omega)]
  rw [if_neg h1, if_neg h2, if_neg h3, if_neg h4, if_neg h5, if_neg h6, if_neg (show ¬ (f.Dot.Device < 0 ∨ 15 < f.Dot.Device ∨ f.Dot.N < 1 ∨ 1000000 < f.Dot.N ∨ f.Time < 1 ∨ 1000000 < f.Time) by omega)]
  unfold valE
  by_cases k1 : f.Kind < 1
  · rw [if_pos k1, if_pos (by omega)]
  by_cases k2 : 6 < f.Kind
  · rw [if_neg k1, if_pos k2, if_pos (by omega)]
  rw [if_neg k1, if_neg k2, if_neg (show ¬ (f.Kind < 1 ∨ 6 < f.Kind) by omega), uses_eq f _ (by simp), bnd_pure, j3_fault, j3_fault, j4_fault]
  have hm : f.Kind ∈ ([1, 3] : List Int) ↔ (f.Kind = 1 ∨ f.Kind = 3) := by simp
  by_cases ht : ¬ (f.Kind = 1 ∨ f.Kind = 3) ∧ f.Text ≠ []
  · rw [if_pos ht.2, decide_eq_false (fun e => ht.1 (hm.1 e)), if_pos (by rfl), if_pos (show formP f from .inr (.inr ht))]
  have hL : (if f.Text ≠ [] then (if (!decide (f.Kind ∈ ([1, 3] : List Int))) = true then some (1 : Int) else if decide (¬ (f.Kind = 2 ∨ f.Kind = 4 ∨ f.Kind = 6) ∧ f.Num ≠ 0) = true ∨ (¬ (f.Kind = 5 ∨ f.Kind = 6) ∧ f.Name ≠ []) then some 1 else if f.Id < 1 ∨ 1000000 < f.Id then some 2 else R_FactFault_j1 f) else (if false = true then some (1 : Int) else if decide (¬ (f.Kind = 2 ∨ f.Kind = 4 ∨ f.Kind = 6) ∧ f.Num ≠ 0) = true ∨ (¬ (f.Kind = 5 ∨ f.Kind = 6) ∧ f.Name ≠ []) then some 1 else if f.Id < 1 ∨ 1000000 < f.Id then some 2 else R_FactFault_j1 f)) = if decide (¬ (f.Kind = 2 ∨ f.Kind = 4 ∨ f.Kind = 6) ∧ f.Num ≠ 0) = true ∨ (¬ (f.Kind = 5 ∨ f.Kind = 6) ∧ f.Name ≠ []) then some 1 else if f.Id < 1 ∨ 1000000 < f.Id then some 2 else R_FactFault_j1 f := by
    by_cases h0 : f.Text = []
    · rw [if_neg (show ¬ (f.Text ≠ []) by simpa using h0), if_neg (show ¬ (false = true) from Bool.false_ne_true)]
    · have : f.Kind ∈ ([1, 3] : List Int) := hm.2 (Classical.byContradiction fun e => ht ⟨e, h0⟩)
      rw [if_pos h0, decide_eq_true this, if_neg (show ¬ ((!true) = true) by simp)]
  rw [hL]
  by_cases hn : (¬ (f.Kind = 2 ∨ f.Kind = 4 ∨ f.Kind = 6) ∧ f.Num ≠ 0) ∨ (¬ (f.Kind = 5 ∨ f.Kind = 6) ∧ f.Name ≠ [])
  · rw [if_pos (hn.imp (fun h => decide_eq_true h) id), if_pos (show formP f from hn.elim .inl (fun h => .inr (.inl h)))]
  have hf : ¬ formP f := fun h => h.elim (fun a => hn (.inl a)) (fun b => b.elim (fun a => hn (.inr a)) ht)
  rw [if_neg (fun h => hn (h.imp of_decide_eq_true id)), if_neg hf]
  by_cases hid : f.Id < 1 ∨ 1000000 < f.Id
  · rw [if_pos hid, if_pos hid]
  · rw [if_neg hid, if_neg hid, j1_fault (by omega) hf]

/-! ### replicas -/

theorem New_eq (n : Int) : sync_New n = some (if n < 0 ∨ 15 < n then (none, 2) else (some ⟨n, (fun _ => 0), []⟩, 0)) := by
  unfold sync_New
  rw [out_sync, bnd_pure, cI]
  by_cases h : n < 0 ∨ 15 < n
  · rw [if_pos h, if_pos h]
  · rw [if_neg h, if_neg h]
theorem Facts_nil (n : Int) (k : Nat → Int) : sync_Replica_Facts ⟨n, k, []⟩ = some [] := by
  unfold sync_Replica_Facts slices_Clone_sync_Fact
  rw [gApp_ok (by simp), bnd_pure, bnd_pure]; rfl
theorem Copy_eq (n m : Int) (k : Nat → Int) : sync_Replica_Copy ⟨n, k, []⟩ m = some (if m < 0 ∨ 15 < m then (none, 2) else (some ⟨m, k, []⟩, 0)) := by
  unfold sync_Replica_Copy
  rw [out_sync, bnd_pure, cI, Facts_nil, bnd_pure]
  by_cases h : m < 0 ∨ 15 < m
  · rw [if_pos h, if_pos h]
  · rw [if_neg h, if_neg h]
theorem knows_refl (k : Nat → Int) : eq_sync_Knows k k = true := by unfold eq_sync_Knows; exact decide_eq_true rfl
theorem Alike_nil (n m : Int) (k : Nat → Int) : sync_Alike ⟨n, k, []⟩ ⟨m, k, []⟩ = some true := by
  have : slices_Equal_sync_Fact [] [] = some true := by
    unfold slices_Equal_sync_Fact
    rw [cI, if_neg (by simp)]
    refine fix_done fun next => ?_
    show slices_Equal_sync_Fact_l1 [] [] next 0 = _
    unfold slices_Equal_sync_Fact_l1
    rw [cI, if_neg (by simp)]
  unfold sync_Alike
  rw [knows_refl, cnd_true, this, bnd_pure]

theorem j2_sync (n m : Int) : Law_SyncFacts_j2 n m ⟨n, (fun _ => 0), []⟩ (if m < 0 ∨ 15 < m then (none, 2) else (some ⟨m, (fun _ => 0), []⟩, 0)) (decide (¬ (m < 0 ∨ 15 < m))) = some true := by
  unfold Law_SyncFacts_j2
  by_cases h : m < 0 ∨ 15 < m
  · rw [if_pos h, decide_eq_false (fun x => x h), show Law_unless false 2 = some 2 from rfl, bnd_pure, cI, if_neg (by simp), cI, if_neg (by simp), show sync_Replica_Device ⟨n, (fun _ => 0), []⟩ = some n from rfl, bnd_pure, cI, if_pos rfl, show sync_Replica_Knows ⟨n, (fun _ => 0), []⟩ = some (fun _ => 0) from rfl, bnd_pure, knows_refl, cnd_true, Facts_nil, bnd_pure, cI, if_pos (by simp)]
    rfl
  · rw [if_neg h, decide_eq_true h, show Law_unless true 2 = some 0 from rfl, bnd_pure, cI, if_neg (by simp), cI, if_neg (by simp), show sync_Replica_Device ⟨n, (fun _ => 0), []⟩ = some n from rfl, bnd_pure, cI, if_pos rfl, show sync_Replica_Knows ⟨n, (fun _ => 0), []⟩ = some (fun _ => 0) from rfl, bnd_pure, knows_refl, cnd_true, Facts_nil, bnd_pure, cI, if_pos (by simp)]
    show cnd false _ _ = _
    rw [cnd_false]
    show bnd (some (⟨m, (fun _ => 0), []⟩ : T_sync_Replica)) _ = _
    rw [bnd_pure, show sync_Replica_Device ⟨m, (fun _ => 0), []⟩ = some m from rfl, bnd_pure, cI, if_pos rfl, Alike_nil, bnd_pure]

theorem there_eq (n : Int) {α : Type} (F : Bool → Option α) : cnd (decide (0 ≤ n)) (F (decide (n < 16))) (F false) = F (decide (¬ (n < 0 ∨ 15 < n))) := by
  rw [cI]
  by_cases h : 0 ≤ n
  · rw [if_pos h]; congr 1; rw [decide_eq_decide]; omega
  · rw [if_neg h]; congr 1; symm; rw [decide_eq_false_iff_not]; omega

theorem syncFacts_all (f : T_sync_Fact) (n m : Int) : Law_SyncFacts f n m = some true := by
  unfold Law_SyncFacts
  rw [New_eq, bnd_pure, there_eq n (fun b => Law_SyncFacts_j1 f n m _ b)]
  unfold Law_SyncFacts_j1
  by_cases h : n < 0 ∨ 15 < n
  · rw [if_pos h, decide_eq_false (fun x => x h), show Law_unless false 2 = some 2 from rfl, bnd_pure, cI, if_neg (by simp), cI, if_neg (by simp), CheckFact_eq, bnd_pure, FactFault_eq, bnd_pure, cI, if_neg (by simp)]
    rfl
  · rw [if_neg h, decide_eq_true h, show Law_unless true 2 = some 0 from rfl, bnd_pure, cI, if_neg (by simp), cI, if_neg (by simp), CheckFact_eq, bnd_pure, FactFault_eq, bnd_pure, cI, if_neg (by simp)]
    show cnd false _ _ = _
    rw [cnd_false]
    show bnd (some (⟨n, (fun _ => 0), []⟩ : T_sync_Replica)) _ = _
    rw [bnd_pure, Copy_eq, bnd_pure, there_eq m (fun b => Law_SyncFacts_j2 n m _ _ b), j2_sync]
theorem syncFactsS (f : T_sync_Fact) (n m : Int) {φ ψ χ : Prop} (_ : φ) (_ : ψ) (_ : χ) : Law_SyncFacts f n m = some true := syncFacts_all f n m
end Go.M
