/- The law EditPixels in plain Lean. Conditions: none. -/
import Derived.Test.YtngogocmhmfbjaaEdR
namespace Go.M
open Go.Md Go.Pl

/-! ### pixels through all steps -/

def dotFold (l : List T_edit_Step) (p : Nat → Int) : Nat → Int := l.foldl (fun p s => dotA s p) p

theorem dotFold_byte : ∀ (l : List T_edit_Step) {p : Nat → Int}, byteArr 3 p → byteArr 3 (dotFold l p)
  | [], _, h => h
  | s :: r, _, h => dotFold_byte r (dotA_byte h)

theorem dotS_congr {s : T_edit_Step} {p q : Nat → Int} (h : ∀ j, j < 3 → p j = q j) {j : Nat} (hj : j < 3) : dotS s p j = dotS s q j := by
  unfold dotS
  rw [h 0 (by omega), h 1 (by omega), h 2 (by omega), h j hj]

def shapeK (s : T_edit_Step) : Prop := 1 ≤ s.Kind ∧ s.Kind ≤ 3
instance (s : T_edit_Step) : Decidable (shapeK s) := by unfold shapeK; infer_instance

theorem Shape_eq (s : T_edit_Step) : edit_Shape s = some (decide (shapeK s)) := by
  unfold edit_Shape
  rw [outside_edit, bnd_pure]
  congr 1
  by_cases h : shapeK s
  · rw [decide_eq_true h, decide_eq_false (by unfold shapeK at h; omega), decide_eq_false (by unfold shapeK at h; omega)]; rfl
  · rw [decide_eq_false h]
    unfold shapeK at h
    by_cases h1 : s.Kind < 1
    · rw [decide_eq_true h1]; rfl
    · rw [decide_eq_false h1, decide_eq_true (by omega)]; rfl
theorem Shaped_eq (s : T_edit_Step) : R_Shaped s = some (decide (shapeK s)) := by
  unfold R_Shaped
  rw [cnd_if]
  by_cases h1 : 1 ≤ s.Kind
  · rw [if_pos h1]
    congr 1
    by_cases h2 : s.Kind ≤ 3
    · rw [decide_eq_true h2, decide_eq_true (show shapeK s from ⟨h1, h2⟩)]
    · rw [decide_eq_false h2, decide_eq_false (fun h : shapeK s => h2 h.2)]
  · rw [if_neg h1, decide_eq_false (fun h : shapeK s => h1 h.1)]

theorem Pixel_eq (l : List T_edit_Step) {p : Nat → Int} (hp : byteArr 3 p) : ∃ c, edit_Pixel l p = some (c, if stepsE l ≠ 0 then stepsE l else if ∀ s ∈ l, ¬ shapeK s then 0 else 10) ∧ ((stepsE l = 0 ∧ ∀ s ∈ l, ¬ shapeK s) → ∀ j, j < 3 → c j = dotFold l p j) ∧ (¬ (stepsE l = 0 ∧ ∀ s ∈ l, ¬ shapeK s) → c = fun _ => 0) := by
  unfold edit_Pixel
  rw [Check_eq, bnd_pure, cnd_if]
  by_cases h0 : stepsE l = 0
  · rw [if_neg (fun h => h h0), if_neg (fun h => h h0)]
    obtain ⟨hl, ho⟩ := stepsE_ok h0
    obtain ⟨r, h1, h2⟩ := fix_run (F := fun next2 s => edit_Pixel_l2 l next2 s.1 s.2) (fun i => 0 ≤ i.1 ∧ i.1 ≤ l.length ∧ (∀ s ∈ l.take i.1.toNat, ¬ shapeK s) ∧ ∀ j, j < 3 → i.2 j = dotFold (l.take i.1.toNat) p j) (fun i => l.length - i.1.toNat)
      (fun r => ((∀ s ∈ l, ¬ shapeK s) → r.2 = 0 ∧ ∀ j, j < 3 → r.1 j = dotFold l p j) ∧ (¬ (∀ s ∈ l, ¬ shapeK s) → r = (fun _ => 0, 10))) (by
      rintro ⟨a, c⟩ ⟨g0, g1, g2, g3⟩
      simp only at g0 g1 g2 g3
      obtain ⟨k, rfl⟩ := Int.eq_ofNat_of_zero_le g0
      rw [Int.toNat_natCast] at g2 g3
      by_cases hk : k < l.length
      · have hs := ho _ (List.getElem_mem hk)
        have hb : byteArr 3 c := fun j hj => by rw [g3 j hj]; exact dotFold_byte _ hp j hj
        by_cases hb2 : shapeK l[k]
        · refine .inl ⟨(fun _ => 0, 10), ⟨fun h => absurd hb2 (h _ (List.getElem_mem hk)), fun _ => rfl⟩, fun next => ?_⟩
          show edit_Pixel_l2 l next k c = _
          unfold edit_Pixel_l2
          rw [cnd_if, if_pos (by omega), gAt_nat hk, bnd_pure, Shape_eq, bnd_pure, decide_eq_true hb2, cnd_true]
        · obtain ⟨g, e1, e2⟩ := byPixel_eq hs hb2
          obtain ⟨q, e3, e4⟩ := e2 c hb
          refine .inr ⟨((k : Int) + 1, q), ⟨by simp only; omega, by simp only; omega, ?_, ?_⟩, by simp only; omega, fun next => ?_⟩
          · simp only [show ((k : Int) + 1).toNat = k + 1 from by omega]
            intro s hsm
            rw [List.take_succ_eq_append_getElem hk, List.mem_append, List.mem_singleton] at hsm
            rcases hsm with h | rfl
            · exact g2 s h
            · exact hb2
          · simp only [show ((k : Int) + 1).toNat = k + 1 from by omega]
            intro j hj
            rw [e4 j hj, List.take_succ_eq_append_getElem hk]
            unfold dotFold; rw [List.foldl_append]
            show _ = dotA l[k] _ j
            unfold dotA
            rw [if_pos hj]
            exact dotS_congr g3 hj
          · show edit_Pixel_l2 l next k c = _
            unfold edit_Pixel_l2 gFn
            rw [cnd_if, if_pos (by omega), gAt_nat hk, bnd_pure, Shape_eq, bnd_pure, decide_eq_false hb2, cnd_false, e1, bnd_pure, bnd_pure, e3, bnd_pure, gI_ok (by omega), bnd_pure]
      · have : k = l.length := by omega
        subst this
        rw [List.take_of_length_le (Nat.le_refl _)] at g2 g3
        refine .inl ⟨(c, 0), ⟨fun _ => ⟨rfl, g3⟩, fun h => absurd g2 h⟩, fun next => ?_⟩
        show edit_Pixel_l2 l next l.length c = _
        unfold edit_Pixel_l2
        rw [cnd_if, if_neg (by omega)]; rfl) (0, p) ⟨by simp, by simp, by simp, by
        intro j hj; simp [dotFold]⟩
    by_cases hb : ∀ s ∈ l, ¬ shapeK s
    · rw [if_pos hb]
      obtain ⟨e1, e2⟩ := h2.1 hb
      refine ⟨r.1, ?_, fun _ => e2, fun h => absurd ⟨h0, hb⟩ h⟩
      rw [h1, ← e1]
    · rw [if_neg hb]
      have := h2.2 hb
      subst this
      exact ⟨_, h1, fun h => absurd h.2 hb, fun _ => rfl⟩
  · rw [if_pos h0, if_pos h0]
    exact ⟨_, rfl, fun h => absurd h.1 h0, fun _ => rfl⟩

/-! ### the law -/

theorem first2 (a b : Int) : Law_first [a, b] = some (if a ≠ 0 then a else b) := by
  unfold Law_first
  have e2 : fix (fun next1 s => Law_first_l1 [a, b] next1 s) 2 = some 0 := fix_done fun next => by
    unfold Law_first_l1; rfl
  have e1 : fix (fun next1 s => Law_first_l1 [a, b] next1 s) 1 = some b := by
    by_cases h : b = 0
    · subst h
      rw [← e2]
      exact fix_goto _ fun next => by unfold Law_first_l1; rfl
    · exact fix_done fun next => by
        show cnd true (bnd (some b) fun t9 => cnd (decide (t9 ≠ 0)) (some t9) _) _ = _
        rw [cnd_true, bnd_pure, decide_eq_true h, cnd_true]
  by_cases h : a = 0
  · subst h
    rw [if_neg (by simp), ← e1]
    exact fix_goto _ fun next => by unfold Law_first_l1; rfl
  · rw [if_pos h]
    exact fix_done fun next => by
      show cnd true (bnd (some a) fun t9 => cnd (decide (t9 ≠ 0)) (some t9) _) _ = _
      rw [cnd_true, bnd_pure, decide_eq_true h, cnd_true]

theorem unless_eq (b : Bool) (e : Int) : Law_unless b e = some (if b = true then 0 else e) := by
  unfold Law_unless; cases b <;> rfl

theorem told256_ok {a c : Nat → Int} {b d : Int} (h : ∀ j, j < 256 → a j = if d ≠ 0 then 0 else c j) (hb : b = d) : Law_told_256_byte a b c d = some true := by
  have key : ∀ m : Nat → Int, (∀ j, j < 256 → a j = m j) → Law_told_256_byte_j1 a b d m = some true := by
    intro m hm
    unfold Law_told_256_byte_j1
    have : eq_256_uint8 a m = true := by
      unfold eq_256_uint8
      refine decide_eq_true (List.map_congr_left fun j hj => hm j (List.mem_range.1 hj))
    rw [this, cnd_true, decide_eq_true hb]
  unfold Law_told_256_byte
  rw [cnd_if]
  by_cases h0 : d = 0
  · rw [if_neg (fun h => h h0)]; exact key _ fun j hj => by rw [h j hj, if_neg (fun h => h h0)]
  · rw [if_pos h0]; exact key _ fun j hj => by rw [h j hj, if_pos h0]

theorem told3_ok {a c : Nat → Int} {b d : Int} (h : ∀ j, j < 3 → a j = if d ≠ 0 then 0 else c j) (hb : b = d) : Law_told_3_byte a b c d = some true := by
  have key : ∀ m : Nat → Int, (∀ j, j < 3 → a j = m j) → Law_told_3_byte_j1 a b d m = some true := by
    intro m hm
    unfold Law_told_3_byte_j1
    have : eq_3_uint8 a m = true := by
      unfold eq_3_uint8
      refine decide_eq_true (List.map_congr_left fun j hj => hm j (List.mem_range.1 hj))
    rw [this, cnd_true, decide_eq_true hb]
  unfold Law_told_3_byte
  rw [cnd_if]
  by_cases h0 : d = 0
  · rw [if_neg (fun h => h h0)]; exact key _ fun j hj => by rw [h j hj, if_neg (fun h => h h0)]
  · rw [if_pos h0]; exact key _ fun j hj => by rw [h j hj, if_pos h0]

/-- The fold over a pixel whose colours are the same byte. -/
theorem dotFold_grey : ∀ (l : List T_edit_Step), (∀ s ∈ l, byteK s) → ∀ (p : Nat → Int) (j : Nat), j < 3 → dotFold l p j = byteFold l (p j)
  | [], _, _, _, _ => rfl
  | s :: r, h, p, j, hj => by
    show dotFold r (dotA s p) j = byteFold r (toneB s (p j))
    rw [dotFold_grey r (fun x hx => h x (by simp [hx])) _ j hj]
    congr 1
    unfold dotA dotS
    have hb := h s (by simp)
    rw [if_pos hj, if_neg (by unfold byteK at hb; omega), if_neg (by unfold byteK at hb; omega), if_pos hb]

/-- A fold of Dot within a loop of the law. -/
theorem dot_loop {ρ : Type} {F : (Int × (Nat → Int) → Option ρ) → Int × (Nat → Int) → Option ρ} (l : List T_edit_Step) (ho : okAll l) (hl : l.length ≤ 1000000) (J : (Nat → Int) → Option ρ)
    (step : ∀ next (k : Int) m, F next (k, m) = cnd (decide (k < (l.length : Int))) (bnd (gAt l k) fun t => bnd (R_Dot t m) fun q => bnd (gI (k + 1)) fun k' => next (k', q)) (J m)) {p : Nat → Int} (hp : byteArr 3 p) : fix F (0, p) = J (dotFold l p) := by
  refine fix_list (F := F) l (fun p s => dotA s p) J (fun _ m => byteArr 3 m) (fun next k m hk hm => ⟨?_, dotA_byte hm⟩) (fun next m hm => ?_) p hp
  · rw [step, cnd_if, if_pos (by omega), gAt_nat hk, bnd_pure, R_Dot_eq (ho.at hk) hm, bnd_pure, gI_ok (by omega), bnd_pure]
  · rw [step, cnd_if, if_neg (by omega)]

theorem dotFold_congr : ∀ (l : List T_edit_Step) {p q : Nat → Int}, (∀ j, j < 3 → p j = q j) → ∀ j, j < 3 → dotFold l p j = dotFold l q j
  | [], _, _, h, j, hj => h j hj
  | s :: r, p, q, h, j, hj => dotFold_congr r (fun i hi => by
    show dotA s p i = dotA s q i
    unfold dotA
    rw [if_pos hi, if_pos hi]
    exact dotS_congr h hi) j hj

/-- The law's own errors: of single bytes, and of pixels. -/
def goodB (s : T_edit_Step) : Prop := ¬ shapeK s ∧ s.Kind ≠ 7 ∧ s.Kind ≠ 8
instance (s : T_edit_Step) : Decidable (goodB s) := by unfold goodB; infer_instance
def errB (e : Int) (l : List T_edit_Step) : Int := if e ≠ 0 then e else if ∀ s ∈ l, goodB s then 0 else 10
def errP (e : Int) (l : List T_edit_Step) : Int := if e ≠ 0 then e else if ∀ s ∈ l, ¬ shapeK s then 0 else 10

theorem errB_e {e : Int} (h : e ≠ 0) (l : List T_edit_Step) : errB e l = e := if_pos h
theorem errB_0 {l : List T_edit_Step} (h : ∀ s ∈ l, goodB s) : errB 0 l = 0 := by unfold errB; rw [if_neg (fun h => h rfl), if_pos h]
theorem errB_1 {l : List T_edit_Step} (h : ¬ ∀ s ∈ l, goodB s) : errB 0 l = 10 := by unfold errB; rw [if_neg (fun h => h rfl), if_neg h]
theorem errB_snoc (e : Int) (l : List T_edit_Step) (s : T_edit_Step) : (if errB e l ≠ 0 then errB e l else if goodB s then 0 else 10) = errB e (l ++ [s]) := by
  by_cases h0 : e = 0
  · subst h0
    by_cases h1 : ∀ s ∈ l, goodB s
    · rw [errB_0 h1, if_neg (fun h => h rfl)]
      by_cases h2 : goodB s
      · rw [if_pos h2, errB_0]
        intro x hx
        rcases List.mem_append.1 hx with hx | hx
        · exact h1 x hx
        · rw [List.mem_singleton.1 hx]; exact h2
      · rw [if_neg h2, errB_1 fun h => h2 (h s (by simp))]
    · rw [errB_1 h1, if_pos (by decide), errB_1 fun h => h1 fun x hx => h x (by simp [hx])]
  · rw [errB_e h0, errB_e h0, if_pos h0]
theorem errP_e {e : Int} (h : e ≠ 0) (l : List T_edit_Step) : errP e l = e := if_pos h
theorem errP_0 {l : List T_edit_Step} (h : ∀ s ∈ l, ¬ shapeK s) : errP 0 l = 0 := by unfold errP; rw [if_neg (fun h => h rfl), if_pos h]
theorem errP_1 {l : List T_edit_Step} (h : ¬ ∀ s ∈ l, ¬ shapeK s) : errP 0 l = 10 := by unfold errP; rw [if_neg (fun h => h rfl), if_neg h]
theorem errP_snoc (e : Int) (l : List T_edit_Step) (s : T_edit_Step) : (if errP e l ≠ 0 then errP e l else if ¬ shapeK s then 0 else 10) = errP e (l ++ [s]) := by
  by_cases h0 : e = 0
  · subst h0
    by_cases h1 : ∀ s ∈ l, ¬ shapeK s
    · rw [errP_0 h1, if_neg (fun h => h rfl)]
      by_cases h2 : ¬ shapeK s
      · rw [if_pos h2, errP_0]
        intro x hx
        rcases List.mem_append.1 hx with hx | hx
        · exact h1 x hx
        · rw [List.mem_singleton.1 hx]; exact h2
      · rw [if_neg h2, errP_1 fun h => h2 (h s (by simp))]
    · rw [errP_1 h1, if_pos (by decide), errP_1 fun h => h1 fun x hx => h x (by simp [hx])]
  · rw [errP_e h0, errP_e h0, if_pos h0]

theorem errB_eq (l : List T_edit_Step) : errB (stepsE l) l = if stepsE l ≠ 0 then stepsE l else if ∀ s ∈ l, byteK s then 0 else 10 := by
  unfold errB
  by_cases h0 : stepsE l = 0
  · have n0 : ¬ (stepsE l ≠ 0) := fun h => h h0
    rw [if_neg n0, if_neg n0]
    have ho := (stepsE_ok h0).2
    have : (∀ s ∈ l, goodB s) ↔ ∀ s ∈ l, byteK s := by
      constructor <;> intro h s hs <;> have h1 := h s hs <;> have h2 := (stepE_ok (ho s hs)).1 <;> unfold goodB shapeK at * <;> unfold byteK at * <;> omega
    by_cases h : ∀ s ∈ l, goodB s
    · rw [if_pos h, if_pos (this.1 h)]
    · rw [if_neg h, if_neg fun h' => h (this.2 h')]
  · rw [if_pos h0, if_pos h0]

theorem l11_step (l : List T_edit_Step) (p : Nat → Int) (t77 t83 : (Nat → Int) × Int) (next : Int × Int × Int → Option Bool) (a b : Int) (k : Nat) (hk : k < l.length) (hl : l.length ≤ 9223372036854775807) :
    Law_EditPixels_l11 l p t77 t83 next a b (k : Int) = next (if a ≠ 0 then a else if goodB l[k] then 0 else 10, if b ≠ 0 then b else if ¬ shapeK l[k] then 0 else 10, (k : Int) + 1) := by
  unfold Law_EditPixels_l11 Law_EditPixels_j12
  rw [cnd_if, if_pos (by omega), gAt_nat hk, bnd_pure, Shaped_eq, bnd_pure, gI_ok (by omega)]
  by_cases h1 : shapeK l[k]
  · have hg : ¬ goodB l[k] := fun h => h.1 h1
    have hn : ¬ ¬ shapeK l[k] := fun h => h h1
    rw [if_neg hg, if_neg hn]
    simp only [decide_eq_true h1, Bool.not_true, cnd_false, unless_eq, first2, bnd_pure, Bool.false_eq_true, if_false]
  · rw [if_pos h1]
    simp only [decide_eq_false h1, Bool.not_false, cnd_true, unless_eq, first2, bnd_pure, if_true]
    rw [cnd_if]
    by_cases h7 : l[k].Kind = 7
    · rw [if_neg (fun h => h h7), if_neg (show ¬ goodB l[k] from fun h => h.2.1 h7)]
      simp only [Bool.false_eq_true, if_false]
    · rw [if_pos h7]
      by_cases h8 : l[k].Kind = 8
      · rw [if_neg (show ¬ goodB l[k] from fun h => h.2.2 h8), decide_eq_false (fun h => h h8)]
        simp only [Bool.false_eq_true, if_false]
      · rw [if_pos (show goodB l[k] from ⟨h1, h7, h8⟩), decide_eq_true h8]
        simp only [if_true]

theorem l11_eq (l : List T_edit_Step) (p : Nat → Int) (t77 t83 : (Nat → Int) × Int) (hl : l.length ≤ 9223372036854775807) (e : Int) :
    fix (fun next11 s => Law_EditPixels_l11 l p t77 t83 next11 s.1 s.2.1 s.2.2) (e, e, 0) = Law_EditPixels_j2 l p t77 t83 (errB e l) (errP e l) := by
  refine fix_of (F := fun next11 s => Law_EditPixels_l11 l p t77 t83 next11 s.1 s.2.1 s.2.2) (fun _ => Law_EditPixels_j2 l p t77 t83 (errB e l) (errP e l))
    (fun i => 0 ≤ i.2.2 ∧ i.2.2 ≤ l.length ∧ i.1 = errB e (l.take i.2.2.toNat) ∧ i.2.1 = errP e (l.take i.2.2.toNat)) (fun i => l.length - i.2.2.toNat) ?_ (e, e, 0) ⟨by simp, by simp, ?_, ?_⟩
  · rintro next ⟨a, b, q⟩ ⟨g0, g1, g2, g3⟩ ih
    simp only at g0 g1 g2 g3
    obtain ⟨k, rfl⟩ := Int.eq_ofNat_of_zero_le g0
    rw [Int.toNat_natCast] at g2 g3
    by_cases hk : k < l.length
    · refine (l11_step l p t77 t83 next a b k hk hl).trans (ih _ ⟨by simp only; omega, by simp only; omega, ?_, ?_⟩ (by simp only; omega))
      · simp only [show ((k : Int) + 1).toNat = k + 1 from by omega]
        rw [g2, errB_snoc, List.take_succ_eq_append_getElem hk]
      · simp only [show ((k : Int) + 1).toNat = k + 1 from by omega]
        rw [g3, errP_snoc, List.take_succ_eq_append_getElem hk]
    · have : k = l.length := by omega
      subst this
      rw [List.take_of_length_le (Nat.le_refl _)] at g2 g3
      subst g2 g3
      show Law_EditPixels_l11 l p t77 t83 next _ _ (l.length : Int) = _
      unfold Law_EditPixels_l11
      rw [cnd_if, if_neg (by omega)]
  · simp [errB]
  · simp [errP]

theorem j2_ok (l : List T_edit_Step) {p cu px : Nat → Int} (hp : byteArr 3 p) {a b : Int} (ha : a = 0 → okAll l ∧ l.length ≤ 50 ∧ (∀ s ∈ l, byteK s) ∧ ∀ j, j < 256 → cu j = byteFold l (j : Int)) (ha' : a ≠ 0 → cu = fun _ => 0)
    (hb : b = 0 → okAll l ∧ l.length ≤ 50 ∧ ∀ j, j < 3 → px j = dotFold l p j) (hb' : b ≠ 0 → px = fun _ => 0) : Law_EditPixels_j2 l p (cu, a) (px, b) a b = some true := by
  have last : ∀ m m2 : Nat → Int, (∀ j, j < 256 → cu j = if a ≠ 0 then 0 else m j) → (∀ j, j < 3 → px j = if b ≠ 0 then 0 else m2 j) → Law_EditPixels_j4 (cu, a) (px, b) a b m m2 = some true := by
    intro m m2 h1 h2
    unfold Law_EditPixels_j4
    rw [told256_ok h1 rfl, bnd_pure, cnd_true, told3_ok h2 rfl, bnd_pure]
  have j3 : ∀ m : Nat → Int, (∀ j, j < 256 → cu j = if a ≠ 0 then 0 else m j) → Law_EditPixels_j3 l p (cu, a) (px, b) a b m = some true := by
    intro m hm
    unfold Law_EditPixels_j3
    have p0 := hp 0 (by omega)
    have p1 := hp 1 (by omega)
    have p2 := hp 2 (by omega)
    rw [cnd_if]
    by_cases h0 : b = 0
    · obtain ⟨ho, hl, hx⟩ := hb h0
      rw [if_pos h0, gK_ok (by omega), bnd_pure, gK_ok (by omega), bnd_pure, gK_ok (by omega), bnd_pure]
      have he : ∀ j, j < 3 → ofL [p 0, p 1, p 2] j = p j := by
        intro j hj
        have : j = 0 ∨ j = 1 ∨ j = 2 := by omega
        rcases this with rfl | rfl | rfl <;> rfl
      have hp' : byteArr 3 (ofL [p 0, p 1, p 2]) := fun j hj => by rw [he j hj]; exact hp j hj
      rw [dot_loop l ho (by omega) (fun m5 => Law_EditPixels_j5 (cu, a) (px, b) a b m m5) (fun next k m5 => rfl) hp']
      refine last _ _ hm fun j hj => ?_
      have hd := dotFold_byte l hp'
      rw [if_neg (fun h => h h0), hx j hj, ← dotFold_congr l he j hj]
      have : j = 0 ∨ j = 1 ∨ j = 2 := by omega
      rcases this with rfl | rfl | rfl
      · exact (wU8_in (hd 0 (by omega))).symm
      · exact (wU8_in (hd 1 (by omega))).symm
      · exact (wU8_in (hd 2 (by omega))).symm
    · rw [if_neg h0]
      exact last _ _ hm fun j hj => by rw [if_pos h0, hb' h0]
  unfold Law_EditPixels_j2
  rw [cnd_if]
  by_cases h0 : a = 0
  · obtain ⟨ho, hl, hk, hc⟩ := ha h0
    rw [if_pos h0]
    refine (fill_loop (F := fun next7 s => Law_EditPixels_l7 l p (cu, a) (px, b) a b next7 s.1 s.2) 256 (fun j => byteFold l (j : Int)) (fun m => Law_EditPixels_j3 l p (cu, a) (px, b) a b m) (fun next k m hkk => ?_) (fun next m => ?_) (fun _ => 0)).trans ?_
    · show Law_EditPixels_l7 l p (cu, a) (px, b) a b next k m = _
      unfold Law_EditPixels_l7
      have he : ∀ j, j < 3 → ofL [(k : Int), (k : Int), (k : Int)] j = (k : Int) := by
        intro j hj
        have : j = 0 ∨ j = 1 ∨ j = 2 := by omega
        rcases this with rfl | rfl | rfl <;> rfl
      have hp' : byteArr 3 (ofL [(k : Int), (k : Int), (k : Int)]) := fun j hj => by rw [he j hj]; omega
      rw [cnd_if, if_pos (by omega), dot_loop (F := fun next10 s => Law_EditPixels_l10 l (k : Int) m next next10 s.1 s.2) l ho (by omega) (fun m11 => Law_EditPixels_j9 (k : Int) m next m11) (fun next' k' m11 => by show Law_EditPixels_l10 l (k : Int) m next next' k' m11 = _; unfold Law_EditPixels_l10; rfl) hp']
      unfold Law_EditPixels_j9 Law_EditPixels_j8
      rw [gIx_nat hkk, bnd_pure, gI_ok (by omega), bnd_pure, wU8_in (dotFold_byte l hp' 0 (by omega)), dotFold_grey l hk _ 0 (by omega)]
      rfl
    · show Law_EditPixels_l7 l p (cu, a) (px, b) a b next 256 m = _
      unfold Law_EditPixels_l7
      rw [cnd_if, if_neg (by omega)]
    · exact j3 _ fun j hj => by rw [if_neg (fun h => h h0), if_pos hj, hc j hj]
  · rw [if_neg h0]
    exact j3 _ fun j hj => by rw [if_pos h0, ha' h0]

theorem editPixelsS (l : List T_edit_Step) (w h x y : Int) (p : Nat → Int) {φ1 φ2 φ3 φ4 φ5 : Prop} (hlen : l.length ≤ 9223372036854775807 ∧ φ1) (_ : φ2) (_ : φ3) (_ : φ4) (_ : φ5) (hp : byteArr 3 p) : Law_EditPixels l w h x y p = some true := by
  unfold Law_EditPixels
  rw [StepsFault_eq, bnd_pure, Comes_eq, bnd_pure, cnd_if]
  have main : ∀ r : Int × Int × Int, Law_EditPixels_j1 l p (stepsE l) r r.1 r.2.1 r.2.2 = some true := by
    intro r
    unfold Law_EditPixels_j1
    rw [cnd_if, if_neg (fun h => h rfl), cnd_if, if_neg (fun h => h rfl), cnd_if, if_neg (fun h => h rfl)]
    obtain ⟨cu, k1, k2, k3⟩ := Curve_eq l
    obtain ⟨px, q1, q2, q3⟩ := Pixel_eq l hp
    rw [k1, bnd_pure, q1, bnd_pure, ← errB_eq l, l11_eq l p _ _ hlen.1]
    have hP : (if stepsE l ≠ 0 then stepsE l else if ∀ s ∈ l, ¬ shapeK s then 0 else 10) = errP (stepsE l) l := rfl
    rw [hP]
    have okB : errB (stepsE l) l = 0 ↔ (stepsE l = 0 ∧ ∀ s ∈ l, byteK s) := by
      rw [errB_eq]
      by_cases h0 : stepsE l = 0
      · have n0 : ¬ (stepsE l ≠ 0) := fun h => h h0
        rw [if_neg n0]
        by_cases h1 : ∀ s ∈ l, byteK s
        · rw [if_pos h1]; exact ⟨fun _ => ⟨h0, h1⟩, fun _ => rfl⟩
        · rw [if_neg h1]; exact ⟨fun h => (by cases h), fun h => absurd h.2 h1⟩
      · rw [if_pos h0]; exact ⟨fun h => absurd h h0, fun h => h.1⟩
    have okP : errP (stepsE l) l = 0 ↔ (stepsE l = 0 ∧ ∀ s ∈ l, ¬ shapeK s) := by
      rw [← hP]
      by_cases h0 : stepsE l = 0
      · have n0 : ¬ (stepsE l ≠ 0) := fun h => h h0
        rw [if_neg n0]
        by_cases h1 : ∀ s ∈ l, ¬ shapeK s
        · rw [if_pos h1]; exact ⟨fun _ => ⟨h0, h1⟩, fun _ => rfl⟩
        · rw [if_neg h1]; exact ⟨fun h => (by cases h), fun h => absurd h.2 h1⟩
      · rw [if_pos h0]; exact ⟨fun h => absurd h h0, fun h => h.1⟩
    refine j2_ok l hp (fun h => ?_) (fun h => k3 fun h' => h (okB.2 h')) (fun h => ?_) (fun h => q3 fun h' => h (okP.2 h'))
    · have h' := okB.1 h
      exact ⟨(stepsE_ok h'.1).2, (stepsE_ok h'.1).1, h'.2, k2 h'⟩
    · have h' := okP.1 h
      exact ⟨(stepsE_ok h'.1).2, (stepsE_ok h'.1).1, q2 h'⟩
  by_cases h0 : stepsE l = 0
  · obtain ⟨hl, ho⟩ := stepsE_ok h0
    rw [if_pos h0, if_pos h0, ComesFrom_eq l w h x y hl ho, bnd_pure]
    exact main (comesS l w h x y)
  · rw [if_neg h0, if_neg h0]
    exact main (0, 0, stepsE l)

end Go.M
