/- Recipes parted, in plain Lean. Conditions: none. -/
import Derived.Test.YtilhbkglchppjaaDoorEoK
namespace Go.M
open Go.Md Go.Pl

abbrev shapes (l : List T_edit_Step) : List T_edit_Step := l.filter fun s => decide (shapeK s)
abbrev tones (l : List T_edit_Step) : List T_edit_Step := l.filter fun s => !decide (shapeK s)

theorem parts_len : ∀ l : List T_edit_Step, (shapes l).length + (tones l).length = l.length
  | [] => rfl
  | s :: r => by
    have ih := parts_len r
    show (List.filter _ (s :: r)).length + (List.filter _ (s :: r)).length = _
    by_cases hs : shapeK s
    · rw [List.filter_cons_of_pos (by simpa using hs), List.filter_cons_of_neg (by simpa using hs)]
      simp only [List.length_cons]; unfold shapes tones at ih; omega
    · rw [List.filter_cons_of_neg (by simpa using hs), List.filter_cons_of_pos (by simpa using hs)]
      simp only [List.length_cons]; unfold shapes tones at ih; omega

theorem apart_eq (l : List T_edit_Step) (hl : l.length ≤ 3518437208780) : edit_apart l = some (shapes l, tones l) := by
  unfold edit_apart
  have key := fix_list (F := fun next2 s => edit_apart_l2 l next2 s.1 s.2.1 s.2.2) l (fun (p : List T_edit_Step × List T_edit_Step) s => if shapeK s then (p.1 ++ [s], p.2) else (p.1, p.2 ++ [s])) (fun p => some p) (fun k p => p.1.length ≤ k ∧ p.2.length ≤ k)
    (fun next k p hk hI => by
      obtain ⟨h1, h2⟩ := hI
      refine ⟨?_, ?_⟩
      · show edit_apart_l2 l next (k : Int) p.1 p.2 = _
        unfold edit_apart_l2 edit_apart_j3
        rw [cnd_if, if_pos (by omega), gAt_nat hk, bnd_pure, Shape_eq, bnd_pure, cnd_if]
        by_cases hs : shapeK l[k]
        · rw [if_pos hs, if_pos hs, gApp_ok (by simp only [List.length_cons, List.length_nil]; omega), bnd_pure, gI_ok (by omega), bnd_pure]
        · rw [if_neg hs, if_neg hs, gApp_ok (by simp only [List.length_cons, List.length_nil]; omega), bnd_pure, gI_ok (by omega), bnd_pure]
      · by_cases hs : shapeK l[k]
        · rw [if_pos hs]; simp; omega
        · rw [if_neg hs]; simp; omega)
    (fun next p _ => by
      show edit_apart_l2 l next (l.length : Int) p.1 p.2 = _
      unfold edit_apart_l2
      rw [cnd_if, if_neg (by omega)]; rfl) ([], []) ⟨by simp, by simp⟩
  refine key.trans ?_
  congr 1
  have gen : ∀ (l a b : List T_edit_Step), l.foldl (fun (p : List T_edit_Step × List T_edit_Step) s => if shapeK s then (p.1 ++ [s], p.2) else (p.1, p.2 ++ [s])) (a, b) = (a ++ shapes l, b ++ tones l) := by
    intro l
    induction l with
    | nil => intro a b; simp
    | cons s r ih =>
      intro a b
      rw [List.foldl_cons]
      by_cases hs : shapeK s
      · rw [if_pos hs, ih]
        show _ = (a ++ List.filter _ (s :: r), b ++ List.filter _ (s :: r))
        rw [List.filter_cons_of_pos (by simpa using hs), List.filter_cons_of_neg (by simpa using hs)]
        simp
      · rw [if_neg hs, ih]
        show _ = (a ++ List.filter _ (s :: r), b ++ List.filter _ (s :: r))
        rw [List.filter_cons_of_neg (by simpa using hs), List.filter_cons_of_pos (by simpa using hs)]
        simp
  simpa using gen l [] []

theorem Concat2 (a b : List T_edit_Step) (ha : (a.length + b.length) * 40 ≤ 281474976710656) : slices_Concat_edit_Step [a, b] = some (a ++ b) := by
  unfold slices_Concat_edit_Step
  refine (fix_goto (F := fun next3 s => slices_Concat_edit_Step_l3 [a, b] next3 s.1 s.2) ((a.length : Int), 1) fun next => ?_).trans ((fix_goto (F := fun next3 s => slices_Concat_edit_Step_l3 [a, b] next3 s.1 s.2) ((a.length : Int) + (b.length : Int), 2) fun next => ?_).trans (fix_done fun next => ?_))
  · show slices_Concat_edit_Step_l3 [a, b] next 0 0 = _
    unfold slices_Concat_edit_Step_l3
    rw [cnd_if, if_pos (by simp), show gAt [a, b] 0 = some a from rfl, bnd_pure, gI_ok (by omega), bnd_pure, cnd_if, if_neg (by omega), gI_ok (by omega), bnd_pure]
    simp
  · show slices_Concat_edit_Step_l3 [a, b] next (a.length : Int) 1 = _
    unfold slices_Concat_edit_Step_l3
    rw [cnd_if, if_pos (by simp), show gAt [a, b] 1 = some b from rfl, bnd_pure, gI_ok (by omega), bnd_pure, cnd_if, if_neg (by omega), gI_ok (by omega), bnd_pure]
    rfl
  · show slices_Concat_edit_Step_l3 [a, b] next ((a.length : Int) + (b.length : Int)) 2 = _
    unfold slices_Concat_edit_Step_l3
    rw [cnd_if, if_neg (by simp)]
    unfold slices_Concat_edit_Step_j1
    rw [gGroC_ok (by omega), bnd_pure]
    refine (fix_goto (F := fun next2 s => slices_Concat_edit_Step_l2 [a, b] ((a.length : Int) + (b.length : Int)).toNat next2 s.1 s.2) (1, a) fun next => ?_).trans ((fix_goto (F := fun next2 s => slices_Concat_edit_Step_l2 [a, b] ((a.length : Int) + (b.length : Int)).toNat next2 s.1 s.2) (2, a ++ b) fun next => ?_).trans (fix_done fun next => ?_))
    · show slices_Concat_edit_Step_l2 [a, b] ((a.length : Int) + (b.length : Int)).toNat next 0 [] = _
      unfold slices_Concat_edit_Step_l2
      rw [cnd_if, if_pos (by simp), show gAt [a, b] 0 = some a from rfl, bnd_pure, gApC_ok (by simp only [List.length_nil]; omega), bnd_pure, gI_ok (by omega), bnd_pure]
      rfl
    · show slices_Concat_edit_Step_l2 [a, b] ((a.length : Int) + (b.length : Int)).toNat next 1 a = _
      unfold slices_Concat_edit_Step_l2
      rw [cnd_if, if_pos (by simp), show gAt [a, b] 1 = some b from rfl, bnd_pure, gApC_ok (by omega), bnd_pure, gI_ok (by omega), bnd_pure]
      rfl
    · show slices_Concat_edit_Step_l2 [a, b] ((a.length : Int) + (b.length : Int)).toNat next 2 (a ++ b) = _
      unfold slices_Concat_edit_Step_l2
      rw [cnd_if, if_neg (by simp)]


end Go.M
