/- Plain lemmas about recipes: sizes, and where a pixel comes from. Conditions: those that each lemma names. -/
import Derived.Test.YtilhbkglchppjaaDoorEoP
namespace Go.M
open Go.Md Go.Pl

/-! ### sizes -/

/-- The size behind all steps. -/
def sizeGo : List T_edit_Step → Int → Int → Int × Int × Int
  | [], w, h => (w, h, 0)
  | s :: r, w, h =>
    if s.Kind = 1 then (if 5 ≤ s.A then sizeGo r h w else sizeGo r w h)
    else if s.Kind = 2 then (if s.A + s.C ≤ w ∧ s.B + s.D ≤ h then sizeGo r s.C s.D else (0, 0, 7))
    else if s.Kind = 3 then sizeGo r s.A s.B
    else sizeGo r w h
def sizeS (l : List T_edit_Step) (w h : Int) : Int × Int × Int := if 1 ≤ w ∧ w ≤ 64 ∧ 1 ≤ h ∧ h ≤ 64 then sizeGo l w h else (0, 0, 2)

def okAll (l : List T_edit_Step) : Prop := ∀ s ∈ l, stepE s = 0

theorem okAll.at {l : List T_edit_Step} (h : okAll l) {k : Nat} (hk : k < l.length) : stepE l[k] = 0 := h _ (List.getElem_mem hk)
theorem okAll.take {l : List T_edit_Step} (h : okAll l) (k : Nat) : okAll (l.take k) := fun s hs => h s (List.mem_of_mem_take hs)
theorem okAll.drop {l : List T_edit_Step} (h : okAll l) (k : Nat) : okAll (l.drop k) := fun s hs => h s (List.mem_of_mem_drop hs)

theorem size_loop {F : (Int × Int × Int → Option (Int × Int × Int)) → Int × Int × Int → Option (Int × Int × Int)} (l : List T_edit_Step) (h : okAll l) (hl : l.length ≤ 1000000)
    (step : ∀ (next : Int × Int × Int → Option (Int × Int × Int)) (k : Nat) (w h : Int) (hk : k < l.length), stepE l[k] = 0 → F next (w, h, (k : Int)) =
      (if l[k].Kind = 1 then (if 5 ≤ l[k].A then next (h, w, (k : Int) + 1) else next (w, h, (k : Int) + 1))
      else if l[k].Kind = 2 then (if l[k].A + l[k].C ≤ w ∧ l[k].B + l[k].D ≤ h then next (l[k].C, l[k].D, (k : Int) + 1) else some (0, 0, 7))
      else if l[k].Kind = 3 then next (l[k].A, l[k].B, (k : Int) + 1)
      else next (w, h, (k : Int) + 1)))
    (last : ∀ next w h, F next (w, h, (l.length : Int)) = some (w, h, 0)) (w0 h0 : Int) : fix F (w0, h0, 0) = some (sizeGo l w0 h0) := by
  have key := fix_of (F := F) (fun i => some (sizeGo (l.drop i.2.2.toNat) i.1 i.2.1)) (fun i => 0 ≤ i.2.2 ∧ i.2.2 ≤ l.length) (fun i => l.length - i.2.2.toNat) (by
    rintro next ⟨w, hh, a⟩ ⟨g0, g1⟩ ih
    simp only at g0 g1
    obtain ⟨k, rfl⟩ := Int.eq_ofNat_of_zero_le g0
    have nx : ∀ w' h', k < l.length → next (w', h', (k : Int) + 1) = some (sizeGo (l.drop (k + 1)) w' h') := fun w' h' hk => by
      have := ih (w', h', (k : Int) + 1) ⟨by simp only; omega, by simp only; omega⟩ (by simp only; omega)
      rw [this]; simp only [show ((k : Int) + 1).toNat = k + 1 from by omega]
    simp only [Int.toNat_natCast]
    by_cases hk : k < l.length
    · rw [step next k w hh hk (h.at hk), List.drop_eq_getElem_cons hk]
      simp only [sizeGo, nx _ _ hk]
      split
      · split <;> rfl
      · split
        · split <;> rfl
        · split <;> rfl
    · have : k = l.length := by omega
      subst this
      rw [last, List.drop_of_length_le (Nat.le_refl _)]; rfl) (w0, h0, 0) ⟨by simp, by simp⟩
  simpa using key

theorem sizeGo_in : ∀ {l : List T_edit_Step} {w h : Int}, okAll l → (0 ≤ w ∧ w ≤ 64 ∧ 0 ≤ h ∧ h ≤ 64) → 0 ≤ (sizeGo l w h).1 ∧ (sizeGo l w h).1 ≤ 64 ∧ 0 ≤ (sizeGo l w h).2.1 ∧ (sizeGo l w h).2.1 ≤ 64
  | [], _, _, _, hw => hw
  | s :: r, w, h, ho, hw => by
    have hr : okAll r := fun x hx => ho x (by simp [hx])
    have hs := ho s (by simp)
    have hn := stepE_nums hs
    have hb := (stepE_ok hs).2.1
    simp only [sizeGo]
    split
    · split
      · exact sizeGo_in hr (by omega)
      · exact sizeGo_in hr hw
    · split
      · split
        · exact sizeGo_in hr (by omega)
        · simp
      · split
        · rename_i h3
          refine sizeGo_in hr ?_
          unfold badS at hb
          simp [h3] at hb
          omega
        · exact sizeGo_in hr hw

theorem sizeS_in {l : List T_edit_Step} {w h : Int} (ho : okAll l) : 0 ≤ (sizeS l w h).1 ∧ (sizeS l w h).1 ≤ 64 ∧ 0 ≤ (sizeS l w h).2.1 ∧ (sizeS l w h).2.1 ≤ 64 := by
  unfold sizeS
  split
  · exact sizeGo_in ho (by omega)
  · simp

/-! ### where a pixel comes from -/

def srcS (t w h x y : Int) : Int × Int :=
  if t = 2 then (w - 1 - x, y) else if t = 3 then (w - 1 - x, h - 1 - y) else if t = 4 then (x, h - 1 - y) else if t = 5 then (y, x) else if t = 6 then (y, h - 1 - x) else if t = 7 then (w - 1 - y, h - 1 - x) else if t = 8 then (w - 1 - y, x) else (x, y)

/-- Back through the first i steps. -/
def comesGo (l : List T_edit_Step) (w h : Int) : Nat → Int → Int → Int × Int × Int
  | 0, x, y => (x, y, 0)
  | i + 1, x, y =>
    let s := l.getD i default
    if s.Kind = 1 then comesGo l w h i (srcS s.A (sizeS (l.take i) w h).1 (sizeS (l.take i) w h).2.1 x y).1 (srcS s.A (sizeS (l.take i) w h).1 (sizeS (l.take i) w h).2.1 x y).2
    else if s.Kind = 2 then comesGo l w h i (x + s.A) (y + s.B) else comesGo l w h i x y

theorem srcS_in {t w h x y b : Int} (hb : 0 ≤ b) (hw : 0 ≤ w ∧ w ≤ 64 ∧ 0 ≤ h ∧ h ≤ 64) (hx : -b ≤ x ∧ x ≤ b ∧ -b ≤ y ∧ y ≤ b) :
    -(b + 64) ≤ (srcS t w h x y).1 ∧ (srcS t w h x y).1 ≤ b + 64 ∧ -(b + 64) ≤ (srcS t w h x y).2 ∧ (srcS t w h x y).2 ≤ b + 64 := by
  unfold srcS
  repeat' split
  all_goals simp only
  all_goals omega

/-- Where a pixel comes from, or what is wrong. -/
def comesS (l : List T_edit_Step) (w h x y : Int) : Int × Int × Int :=
  if (sizeS l w h).2.2 ≠ 0 then (0, 0, (sizeS l w h).2.2)
  else if l.any (fun s => decide (s.Kind = 3)) then (0, 0, 11)
  else if x < 0 ∨ (sizeS l w h).1 ≤ x ∨ y < 0 ∨ (sizeS l w h).2.1 ≤ y then (0, 0, 2)
  else comesGo l w h l.length x y

theorem comes_loop {F : (Int × Int × Int → Option (Int × Int × Int)) → Int × Int × Int → Option (Int × Int × Int)} (l : List T_edit_Step) (w h : Int) (ho : okAll l) (hl : l.length ≤ 50)
    (step : ∀ (next : Int × Int × Int → Option (Int × Int × Int)) (k : Nat) (x y : Int) (hk : k < l.length), (-100000 ≤ x ∧ x ≤ 100000 ∧ -100000 ≤ y ∧ y ≤ 100000) → F next (x, y, (k : Int)) =
      (if l[k].Kind = 1 then next ((srcS l[k].A (sizeS (l.take k) w h).1 (sizeS (l.take k) w h).2.1 x y).1, (srcS l[k].A (sizeS (l.take k) w h).1 (sizeS (l.take k) w h).2.1 x y).2, (k : Int) - 1)
      else if l[k].Kind = 2 then next (x + l[k].A, y + l[k].B, (k : Int) - 1) else next (x, y, (k : Int) - 1)))
    (last : ∀ next x y, F next (x, y, -1) = some (x, y, 0)) (x0 y0 : Int) (hx : -64 ≤ x0 ∧ x0 ≤ 64 ∧ -64 ≤ y0 ∧ y0 ≤ 64) : fix F (x0, y0, (l.length : Int) - 1) = some (comesGo l w h l.length x0 y0) := by
  have key := fix_of (F := F) (fun i => some (comesGo l w h (i.2.2 + 1).toNat i.1 i.2.1))
    (fun i => -1 ≤ i.2.2 ∧ i.2.2 < l.length ∧ -(64 + 400 * (50 - i.2.2)) ≤ i.1 ∧ i.1 ≤ 64 + 400 * (50 - i.2.2) ∧ -(64 + 400 * (50 - i.2.2)) ≤ i.2.1 ∧ i.2.1 ≤ 64 + 400 * (50 - i.2.2)) (fun i => (i.2.2 + 1).toNat) (by
    rintro next ⟨x, y, a⟩ ⟨g0, g1, g2, g3, g4, g5⟩ ih
    simp only at g0 g1 g2 g3 g4 g5
    by_cases hm : a = -1
    · subst hm
      rw [last]; rfl
    · obtain ⟨k, rfl⟩ := Int.eq_ofNat_of_zero_le (show 0 ≤ a by omega)
      have hk : k < l.length := by omega
      have hn := stepE_nums (ho.at hk)
      rw [step next k x y hk (by omega)]
      have nx : ∀ x' y', -(64 + 400 * (50 - ((k : Int) - 1))) ≤ x' ∧ x' ≤ 64 + 400 * (50 - ((k : Int) - 1)) ∧ -(64 + 400 * (50 - ((k : Int) - 1))) ≤ y' ∧ y' ≤ 64 + 400 * (50 - ((k : Int) - 1)) → next (x', y', (k : Int) - 1) = some (comesGo l w h k x' y') := fun x' y' hb => by
        have := ih (x', y', (k : Int) - 1) ⟨by simp only; omega, by simp only; omega, by simp only; omega, by simp only; omega, by simp only; omega, by simp only; omega⟩ (by simp only; omega)
        rw [this]; simp only [show ((k : Int) - 1 + 1).toNat = k from by omega]
      have e0 : l.getD k default = l[k] := by rw [List.getD_eq_getElem?_getD, List.getElem?_eq_getElem hk]; rfl
      simp only [show ((k : Int) + 1).toNat = k + 1 from by omega, comesGo, e0]
      have hz := sizeS_in (w := w) (h := h) (ho.take k)
      split
      · have hs := srcS_in (t := l[k].A) (w := (sizeS (l.take k) w h).1) (h := (sizeS (l.take k) w h).2.1) (x := x) (y := y) (b := 64 + 400 * (50 - (k : Int))) (by omega) (by omega) ⟨g2, g3, g4, g5⟩
        rw [nx _ _ (by omega)]
      · split
        · rw [nx _ _ (by omega)]
        · rw [nx _ _ (by omega)]) (x0, y0, (l.length : Int) - 1) ⟨by simp only; omega, by simp only; omega, by simp only; omega, by simp only; omega, by simp only; omega, by simp only; omega⟩
  rw [key]
  simp only [show ((l.length : Int) - 1 + 1).toNat = l.length from by omega]

theorem ContainsFunc_eq (l : List T_edit_Step) (f : T_edit_Step → Option Bool) (c : T_edit_Step → Bool) (hl : l.length ≤ 1000000000) (hf : ∀ s ∈ l, f s = some (c s)) : slices_ContainsFunc_edit_Step l f = some (l.any c) := by
  unfold slices_ContainsFunc_edit_Step slices_IndexFunc_edit_Step
  obtain ⟨r, h1, h2⟩ := fix_run (F := fun next1 s => slices_IndexFunc_edit_Step_l1 l f next1 s) (fun i => 0 ≤ i ∧ i ≤ l.length ∧ l.any c = (l.drop i.toNat).any c) (fun i => l.length - i.toNat) (fun r => -1 ≤ r ∧ decide (0 ≤ r) = l.any c) (by
    rintro a ⟨g0, g1, g2⟩
    obtain ⟨k, rfl⟩ := Int.eq_ofNat_of_zero_le g0
    rw [Int.toNat_natCast] at g2
    by_cases hk : k < l.length
    · rw [List.drop_eq_getElem_cons hk, List.any_cons] at g2
      have hfk := hf _ (List.getElem_mem hk)
      cases hc : c l[k]
      · refine .inr ⟨(k : Int) + 1, ⟨by omega, by omega, ?_⟩, by omega, fun next => ?_⟩
        · rw [show ((k : Int) + 1).toNat = k + 1 from by omega, g2, hc, Bool.false_or]
        · show slices_IndexFunc_edit_Step_l1 l f next k = _
          unfold slices_IndexFunc_edit_Step_l1
          rw [cnd_if, if_pos (by omega), gAt_nat hk, bnd_pure, hfk, bnd_pure, hc, cnd_false, gI_ok (by omega), bnd_pure]
      · refine .inl ⟨(k : Int), ⟨by omega, ?_⟩, fun next => ?_⟩
        · rw [g2, hc, Bool.true_or]; simp
        · show slices_IndexFunc_edit_Step_l1 l f next k = _
          unfold slices_IndexFunc_edit_Step_l1
          rw [cnd_if, if_pos (by omega), gAt_nat hk, bnd_pure, hfk, bnd_pure, hc, cnd_true]
    · have : k = l.length := by omega
      subst this
      refine .inl ⟨-1, ⟨by omega, ?_⟩, fun next => ?_⟩
      · rw [g2, List.drop_of_length_le (Nat.le_refl _)]; rfl
      · show slices_IndexFunc_edit_Step_l1 l f next l.length = _
        unfold slices_IndexFunc_edit_Step_l1
        rw [cnd_if, if_neg (by omega)]) 0 ⟨by omega, by omega, rfl⟩
  rw [h1, bnd_pure, h2.2]

end Go.M
