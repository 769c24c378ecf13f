/- The law EditPixels in plain Lean. Conditions: none. -/
import Derived.Test.YtinpjnlocahjjaaDoorEeR
namespace Go.M
open Go.Md Go.Pl

/-! ### pixels through all steps -/

def dotFold (l : List T_edit_Step) (p : Nat → Int) : Nat → Int := l.foldl (fun p s => dotA s p) p

theorem dotFold_byte : ∀ (l : List T_edit_Step) {p : Nat → Int}, byteArr 3 p → byteArr 3 (dotFold l p)
  | [], _, h => h
  | s :: r, _, h => dotFold_byte r (dotA_byte h)

theorem dotS_congr {s : T_edit_Step} {p q : Nat → Int} (h : ∀ j, j < 3 → p j = q j) {j : Nat} (hj : j < 3) : dotS s p j = dotS s q j := by
  unfold dotS
  rw [h 0 (by omega), h 1 (by omega), h 2 (by omega), h j hj]

def shapeK (s : T_edit_Step) : Prop := 1 ≤ s.Kind ∧ s.Kind ≤ 3
instance (s : T_edit_Step) : Decidable (shapeK s) := by unfold shapeK; infer_instance

theorem Shape_eq (s : T_edit_Step) : edit_Shape s = some (decide (shapeK s)) := by
  unfold edit_Shape
  rw [outside_edit, bnd_pure]
  congr 1
  by_cases h : shapeK s
  · rw [decide_eq_true h, decide_eq_false (by unfold shapeK at h; omega), decide_eq_false (by unfold shapeK at h; omega)]; rfl
  · rw [decide_eq_false h]
    unfold shapeK at h
    by_cases h1 : s.Kind < 1
    · rw [decide_eq_true h1]; rfl
    · rw [decide_eq_false h1, decide_eq_true (by omega)]; rfl
theorem Pixel_eq (l : List T_edit_Step) {p : Nat → Int} (hp : byteArr 3 p) : ∃ c, edit_Pixel l p = some (c, if stepsE l ≠ 0 then stepsE l else if ∀ s ∈ l, ¬ shapeK s then 0 else 10) ∧ ((stepsE l = 0 ∧ ∀ s ∈ l, ¬ shapeK s) → ∀ j, j < 3 → c j = dotFold l p j) ∧ (¬ (stepsE l = 0 ∧ ∀ s ∈ l, ¬ shapeK s) → c = fun _ => 0) := by
  unfold edit_Pixel
  rw [Check_eq, bnd_pure, cnd_if]
  by_cases h0 : stepsE l = 0
  · rw [if_neg (fun h => h h0), if_neg (fun h => h h0)]
    obtain ⟨hl, ho⟩ := stepsE_ok h0
    obtain ⟨r, h1, h2⟩ := fix_run (F := fun next2 s => edit_Pixel_l2 l next2 s.1 s.2) (fun i => 0 ≤ i.1 ∧ i.1 ≤ l.length ∧ (∀ s ∈ l.take i.1.toNat, ¬ shapeK s) ∧ ∀ j, j < 3 → i.2 j = dotFold (l.take i.1.toNat) p j) (fun i => l.length - i.1.toNat)
      (fun r => ((∀ s ∈ l, ¬ shapeK s) → r.2 = 0 ∧ ∀ j, j < 3 → r.1 j = dotFold l p j) ∧ (¬ (∀ s ∈ l, ¬ shapeK s) → r = (fun _ => 0, 10))) (by
      rintro ⟨a, c⟩ ⟨g0, g1, g2, g3⟩
      simp only at g0 g1 g2 g3
      obtain ⟨k, rfl⟩ := Int.eq_ofNat_of_zero_le g0
      rw [Int.toNat_natCast] at g2 g3
      by_cases hk : k < l.length
      · have hs := ho _ (List.getElem_mem hk)
        have hb : byteArr 3 c := fun j hj => by rw [g3 j hj]; exact dotFold_byte _ hp j hj
        by_cases hb2 : shapeK l[k]
        · refine .inl ⟨(fun _ => 0, 10), ⟨fun h => absurd hb2 (h _ (List.getElem_mem hk)), fun _ => rfl⟩, fun next => ?_⟩
          show edit_Pixel_l2 l next k c = _
          unfold edit_Pixel_l2
          rw [cnd_if, if_pos (by omega), gAt_nat hk, bnd_pure, Shape_eq, bnd_pure, decide_eq_true hb2, cnd_true]
        · obtain ⟨g, e1, e2⟩ := byPixel_eq hs hb2
          obtain ⟨q, e3, e4⟩ := e2 c hb
          refine .inr ⟨((k : Int) + 1, q), ⟨by simp only; omega, by simp only; omega, ?_, ?_⟩, by simp only; omega, fun next => ?_⟩
          · simp only [show ((k : Int) + 1).toNat = k + 1 from by omega]
            intro s hsm
            rw [List.take_succ_eq_append_getElem hk, List.mem_append, List.mem_singleton] at hsm
            rcases hsm with h | rfl
            · exact g2 s h
            · exact hb2
          · simp only [show ((k : Int) + 1).toNat = k + 1 from by omega]
            intro j hj
            rw [e4 j hj, List.take_succ_eq_append_getElem hk]
            unfold dotFold; rw [List.foldl_append]
            show _ = dotA l[k] _ j
            unfold dotA
            rw [if_pos hj]
            exact dotS_congr g3 hj
          · show edit_Pixel_l2 l next k c = _
            unfold edit_Pixel_l2 gFn
            rw [cnd_if, if_pos (by omega), gAt_nat hk, bnd_pure, Shape_eq, bnd_pure, decide_eq_false hb2, cnd_false, e1, bnd_pure, bnd_pure, e3, bnd_pure, gI_ok (by omega), bnd_pure]
      · have : k = l.length := by omega
        subst this
        rw [List.take_of_length_le (Nat.le_refl _)] at g2 g3
        refine .inl ⟨(c, 0), ⟨fun _ => ⟨rfl, g3⟩, fun h => absurd g2 h⟩, fun next => ?_⟩
        show edit_Pixel_l2 l next l.length c = _
        unfold edit_Pixel_l2
        rw [cnd_if, if_neg (by omega)]; rfl) (0, p) ⟨by simp, by simp, by simp, by
        intro j hj; simp [dotFold]⟩
    by_cases hb : ∀ s ∈ l, ¬ shapeK s
    · rw [if_pos hb]
      obtain ⟨e1, e2⟩ := h2.1 hb
      refine ⟨r.1, ?_, fun _ => e2, fun h => absurd ⟨h0, hb⟩ h⟩
      rw [h1, ← e1]
    · rw [if_neg hb]
      have := h2.2 hb
      subst this
      exact ⟨_, h1, fun h => absurd h.2 hb, fun _ => rfl⟩
  · rw [if_pos h0, if_pos h0]
    exact ⟨_, rfl, fun h => absurd h.1 h0, fun _ => rfl⟩

/-! ### the law -/

/-- The fold over a pixel whose colours are the same byte. -/
theorem dotFold_grey : ∀ (l : List T_edit_Step), (∀ s ∈ l, byteK s) → ∀ (p : Nat → Int) (j : Nat), j < 3 → dotFold l p j = byteFold l (p j)
  | [], _, _, _, _ => rfl
  | s :: r, h, p, j, hj => by
    show dotFold r (dotA s p) j = byteFold r (toneB s (p j))
    rw [dotFold_grey r (fun x hx => h x (by simp [hx])) _ j hj]
    congr 1
    unfold dotA dotS
    have hb := h s (by simp)
    rw [if_pos hj, if_neg (by unfold byteK at hb; omega), if_neg (by unfold byteK at hb; omega), if_pos hb]

theorem dotFold_congr : ∀ (l : List T_edit_Step) {p q : Nat → Int}, (∀ j, j < 3 → p j = q j) → ∀ j, j < 3 → dotFold l p j = dotFold l q j
  | [], _, _, h, j, hj => h j hj
  | s :: r, p, q, h, j, hj => dotFold_congr r (fun i hi => by
    show dotA s p i = dotA s q i
    unfold dotA
    rw [if_pos hi, if_pos hi]
    exact dotS_congr h hi) j hj

/-- The law's own errors: of single bytes, and of pixels. -/
def goodB (s : T_edit_Step) : Prop := ¬ shapeK s ∧ s.Kind ≠ 7 ∧ s.Kind ≠ 8
instance (s : T_edit_Step) : Decidable (goodB s) := by unfold goodB; infer_instance
def errB (e : Int) (l : List T_edit_Step) : Int := if e ≠ 0 then e else if ∀ s ∈ l, goodB s then 0 else 10
def errP (e : Int) (l : List T_edit_Step) : Int := if e ≠ 0 then e else if ∀ s ∈ l, ¬ shapeK s then 0 else 10

theorem errB_e {e : Int} (h : e ≠ 0) (l : List T_edit_Step) : errB e l = e := if_pos h
theorem errB_0 {l : List T_edit_Step} (h : ∀ s ∈ l, goodB s) : errB 0 l = 0 := by unfold errB; rw [if_neg (fun h => h rfl), if_pos h]
theorem errB_1 {l : List T_edit_Step} (h : ¬ ∀ s ∈ l, goodB s) : errB 0 l = 10 := by unfold errB; rw [if_neg (fun h => h rfl), if_neg h]
theorem errB_snoc (e : Int) (l : List T_edit_Step) (s : T_edit_Step) : (if errB e l ≠ 0 then errB e l else if goodB s then 0 else 10) = errB e (l ++ [s]) := by
  by_cases h0 : e = 0
  · subst h0
    by_cases h1 : ∀ s ∈ l, goodB s
    · rw [errB_0 h1, if_neg (fun h => h rfl)]
      by_cases h2 : goodB s
      · rw [if_pos h2, errB_0]
        intro x hx
        rcases List.mem_append.1 hx with hx | hx
        · exact h1 x hx
        · rw [List.mem_singleton.1 hx]; exact h2
      · rw [if_neg h2, errB_1 fun h => h2 (h s (by simp))]
    · rw [errB_1 h1, if_pos (by decide), errB_1 fun h => h1 fun x hx => h x (by simp [hx])]
  · rw [errB_e h0, errB_e h0, if_pos h0]
theorem errP_e {e : Int} (h : e ≠ 0) (l : List T_edit_Step) : errP e l = e := if_pos h
theorem errP_0 {l : List T_edit_Step} (h : ∀ s ∈ l, ¬ shapeK s) : errP 0 l = 0 := by unfold errP; rw [if_neg (fun h => h rfl), if_pos h]
theorem errP_1 {l : List T_edit_Step} (h : ¬ ∀ s ∈ l, ¬ shapeK s) : errP 0 l = 10 := by unfold errP; rw [if_neg (fun h => h rfl), if_neg h]
theorem errP_snoc (e : Int) (l : List T_edit_Step) (s : T_edit_Step) : (if errP e l ≠ 0 then errP e l else if ¬ shapeK s then 0 else 10) = errP e (l ++ [s]) := by
  by_cases h0 : e = 0
  · subst h0
    by_cases h1 : ∀ s ∈ l, ¬ shapeK s
    · rw [errP_0 h1, if_neg (fun h => h rfl)]
      by_cases h2 : ¬ shapeK s
      · rw [if_pos h2, errP_0]
        intro x hx
        rcases List.mem_append.1 hx with hx | hx
        · exact h1 x hx
        · rw [List.mem_singleton.1 hx]; exact h2
      · rw [if_neg h2, errP_1 fun h => h2 (h s (by simp))]
    · rw [errP_1 h1, if_pos (by decide), errP_1 fun h => h1 fun x hx => h x (by simp [hx])]
  · rw [errP_e h0, errP_e h0, if_pos h0]

theorem errB_eq (l : List T_edit_Step) : errB (stepsE l) l = if stepsE l ≠ 0 then stepsE l else if ∀ s ∈ l, byteK s then 0 else 10 := by
  unfold errB
  by_cases h0 : stepsE l = 0
  · have n0 : ¬ (stepsE l ≠ 0) := fun h => h h0
    rw [if_neg n0, if_neg n0]
    have ho := (stepsE_ok h0).2
    have : (∀ s ∈ l, goodB s) ↔ ∀ s ∈ l, byteK s := by
      constructor <;> intro h s hs <;> have h1 := h s hs <;> have h2 := (stepE_ok (ho s hs)).1 <;> unfold goodB shapeK at * <;> unfold byteK at * <;> omega
    by_cases h : ∀ s ∈ l, goodB s
    · rw [if_pos h, if_pos (this.1 h)]
    · rw [if_neg h, if_neg fun h' => h (this.2 h')]
  · rw [if_pos h0, if_pos h0]

end Go.M
