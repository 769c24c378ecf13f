/- Recipes in the keep-laws: the first question, what Render yields at every input, and the law EditTurns, in plain Lean. Conditions: none. -/
import Derived.Test.YtinpjnlocahjjaaDoorEeT
namespace Go.M
open Go.Md Go.Pl

theorem line_invert : edit_Step_line ⟨9, 0, 0, 0, 0⟩ = some [105, 110, 118, 101, 114, 116] := by
  have h1 : edit_word 9 = some ([105, 110, 118, 101, 114, 116], 0) := rfl
  have h2 : edit_Step_numbers ⟨9, 0, 0, 0, 0⟩ = some [0, 0, 0, 0] := rfl
  unfold edit_Step_line
  rw [h1, bnd_pure, h2, bnd_pure]
  have h3 : gCut [(0 : Int), 0, 0, 0] 0 0 = some [] := rfl
  rw [h3, bnd_pure]
  exact fix_done fun next => rfl

theorem awakeE : Keep_awakeEdit = some true := by
  have h0 : stepsE [⟨9, 0, 0, 0, 0⟩] = 0 := by
    unfold stepsE stepE badS formS usedS; simp [fstE]
  have hT : edit_Text [⟨9, 0, 0, 0, 0⟩] = some ([105, 110, 118, 101, 114, 116, 10], 0) := by
    unfold edit_Text
    rw [Check_eq, bnd_pure, h0, cnd_if, if_neg (by simp)]
    refine (fix_goto (F := fun next2 s => edit_Text_l2 [⟨9, 0, 0, 0, 0⟩] next2 s.1 s.2) (1, [105, 110, 118, 101, 114, 116, 10]) fun next => ?_).trans (fix_done fun next => rfl)
    show edit_Text_l2 [⟨9, 0, 0, 0, 0⟩] next 0 [] = _
    unfold edit_Text_l2
    rw [cnd_if, if_pos (by simp)]
    have hg : gAt [(⟨9, 0, 0, 0, 0⟩ : T_edit_Step)] 0 = some ⟨9, 0, 0, 0, 0⟩ := rfl
    rw [hg, bnd_pure, line_invert, bnd_pure]
    rfl
  unfold Keep_awakeEdit
  rw [hT, bnd_pure, cnd_if, if_pos rfl]
  rfl

/-! ### Render -/

def zeroI : T_api_Image := ⟨0, 0, []⟩
def renderS (m : T_api_Image) (l : List T_edit_Step) : T_api_Image × Int :=
  if stepsE l ≠ 0 then (zeroI, stepsE l) else if imgE m ≠ 0 then (zeroI, imgE m) else if (sizeGo l m.W m.H).2.2 ≠ 0 then (zeroI, (sizeGo l m.W m.H).2.2) else (l.foldl (fun m s => stepI s m) m, 0)

theorem Render_eq {m : T_api_Image} (l : List T_edit_Step) (hb : ∀ v ∈ m.Pixels, 0 ≤ v ∧ v ≤ 255) : edit_Render m l = some (renderS m l) := by
  unfold edit_Render renderS
  rw [Check_eq, bnd_pure, cnd_if, pix_Check_eq]
  by_cases h0 : stepsE l = 0
  · obtain ⟨hl, ho⟩ := stepsE_ok h0
    rw [if_neg (fun h => h h0), if_neg (fun h => h h0), bnd_pure, cnd_if]
    by_cases h1 : imgE m = 0
    · obtain ⟨w, h, e, im⟩ := imgE_im h1 hb
      have hw := im.w1
      have hw2 := im.w2
      have hh := im.h1
      have hh2 := im.h2
      rw [if_neg (fun h => h h1), if_neg (fun h => h h1)]
      rw [e]
      simp only
      rw [edit_size_eq ho (by omega), bnd_pure, cnd_if]
      have hS : sizeS l (w : Int) (h : Int) = sizeGo l w h := by unfold sizeS; rw [if_pos (by omega)]
      rw [hS]
      by_cases h2 : (sizeGo l (w : Int) (h : Int)).2.2 = 0
      · rw [if_neg (fun h => h h2), if_neg (fun h => h h2)]
        obtain ⟨w1, h1', P1, m1, f1, e1⟩ := Render_loop ho (by omega) im h2
        have eT := pix_Turn_eq im (t := 1) (by omega)
        have eW : turnW 1 w h = w := rfl
        have eH : turnH 1 w h = h := rfl
        rw [eW, eH, turn_one im] at eT
        rw [show ((1 : Nat) : Int) = 1 from rfl] at eT
        rw [eT, bnd_pure]
        simp only
        rw [e1, f1]
      · rw [if_pos h2, if_pos h2]; rfl
    · rw [if_pos h1, if_pos h1]; rfl
  · rw [if_pos h0, if_pos h0]; rfl

/-- What a Render that yields an image says. -/
theorem renderS_ok {m : T_api_Image} {l : List T_edit_Step} (h : (renderS m l).2 = 0) (hb : ∀ v ∈ m.Pixels, 0 ≤ v ∧ v ≤ 255) :
    ∃ w h : Nat, m = ⟨w, h, m.Pixels⟩ ∧ Im w h m.Pixels ∧ stepsE l = 0 ∧ l.length ≤ 50 ∧ okAll l ∧ (sizeGo l w h).2.2 = 0 ∧ (renderS m l).1 = l.foldl (fun m s => stepI s m) m := by
  unfold renderS at h ⊢
  by_cases h0 : stepsE l = 0
  · obtain ⟨hl, ho⟩ := stepsE_ok h0
    rw [if_neg (fun h => h h0)] at h ⊢
    by_cases h1 : imgE m = 0
    · obtain ⟨w, hh, e, im⟩ := imgE_im h1 hb
      rw [if_neg (fun h => h h1)] at h ⊢
      have eW : m.W = w := by rw [e]
      have eH : m.H = hh := by rw [e]
      rw [eW, eH] at h ⊢
      by_cases h2 : (sizeGo l (w : Int) (hh : Int)).2.2 = 0
      · rw [if_neg (fun h => h h2)]
        exact ⟨w, hh, e, im, h0, hl, ho, h2, rfl⟩
      · rw [if_pos h2] at h; exact absurd h h2
    · rw [if_pos h1] at h; exact absurd h h1
  · rw [if_pos h0] at h; exact absurd h h0

theorem same_self (m : T_api_Image) : Keep_same m m = some true := by
  unfold Keep_same bytes_Equal
  rw [cnd_if, if_pos rfl, cnd_if, if_pos rfl, bnd_pure]; simp

/-! ### EditTurns -/

theorem stepE_turn (t : Int) : stepE ⟨1, t, 0, 0, 0⟩ = if 1 ≤ t ∧ t ≤ 8 then 0 else 2 := by
  unfold stepE badS formS usedS
  simp only
  rw [if_neg (by omega)]
  by_cases h : 1 ≤ t ∧ t ≤ 8
  · rw [if_pos h]; simp; omega
  · rw [if_neg h]; simp; omega

theorem editTurnsS (m : T_api_Image) (t : Int) {φ1 φ2 φ3 φ4 : Prop} (hm : φ1 ∧ φ2 ∧ (φ3 ∧ ∀ v ∈ m.Pixels, 0 ≤ v ∧ v ≤ 255)) (_ : φ4) : Keep_EditTurns m t = some true := by
  have hb := hm.2.2.2
  unfold Keep_EditTurns
  rw [awakeE, bnd_pure, Bool.not_true, cnd_false, Render_eq _ hb, bnd_pure]
  have hs : stepsE [⟨1, t, 0, 0, 0⟩] = if 1 ≤ t ∧ t ≤ 8 then 0 else 2 := by
    unfold stepsE
    rw [if_neg (by simp)]
    simp only [List.map_cons, List.map_nil, fstE, stepE_turn]
    by_cases h : 1 ≤ t ∧ t ≤ 8
    · rw [if_pos h]; simp
    · rw [if_neg h]; simp
  unfold pix_Turn
  rw [pix_Check_eq, bnd_pure, cnd_if, pix_outside_eq, bnd_pure]
  by_cases h1 : imgE m = 0
  · obtain ⟨w, h, e, im⟩ := imgE_im h1 hb
    by_cases ht : 1 ≤ t ∧ t ≤ 8
    · rw [if_pos ht] at hs
      have hb1 : (decide (t < 1) || decide (8 < t)) = false := by simp; omega
      rw [if_neg (fun h => h h1), hb1, cnd_false]
      have eT := pix_turned_eq im (t := t.toNat) (by omega)
      rw [nat_of (by omega)] at eT
      have hr : renderS m [⟨1, t, 0, 0, 0⟩] = (⟨turnW t.toNat w h, turnH t.toNat w h, imgL (turnW t.toNat w h) (turnH t.toNat w h) (turnPx t.toNat w h m.Pixels)⟩, 0) := by
        unfold renderS
        rw [hs, if_neg (by simp), if_neg (fun h => h h1)]
        have hz : (sizeGo [⟨1, t, 0, 0, 0⟩] m.W m.H).2.2 = 0 := by
          simp only [sizeGo, if_true]
          split <;> rfl
        rw [hz, if_neg (by simp)]
        simp only [List.foldl_cons, List.foldl_nil]
        conv => lhs; rw [e]
        rw [step1 rfl]
      rw [hr]
      conv => lhs; rw [e]
      rw [eT, bnd_pure, bnd_pure]
      simp only [decide_true]
      rw [cnd_true, cnd_if, if_neg (by simp), same_self, bnd_pure]
    · rw [if_neg ht] at hs
      have hb1 : (decide (t < 1) || decide (8 < t)) = true := by simp; omega
      rw [if_neg (fun h => h h1), hb1, cnd_true, bnd_pure]
      have hr : renderS m [⟨1, t, 0, 0, 0⟩] = (zeroI, 2) := by
        unfold renderS
        rw [hs, if_pos (by simp)]
      rw [hr]; rfl
  · rw [if_pos h1, bnd_pure]
    have hr : (renderS m [⟨1, t, 0, 0, 0⟩]).2 ≠ 0 := by
      intro h
      obtain ⟨w, h', e, im, _⟩ := renderS_ok h hb
      exact h1 (by rw [e]; exact im_imgE im)
    rw [decide_eq_false hr, decide_eq_false h1]
    rw [show decide (false = false) = true from rfl, cnd_true, cnd_if, if_pos hr]

end Go.M
