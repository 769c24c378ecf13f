/- Segments of a picture file: what the models of package tag and of its reference compute. Conditions: none. -/
import Derived.Test.YtngogocmhmfbjaaPl
import Derived.Test.YtngogocmhmfbjaaMTagS
namespace Go.M
open Go.Md Go.Pl
set_option maxHeartbeats 4000000

/-! ### splitting -/

def isK (k : Int) : Bool := decide (192 ≤ k ∧ k ≤ 254 ∧ k ≠ 216 ∧ k ≠ 217)

theorem isK_tag (k : Int) : tag_isKind k = some (isK k) := by
  unfold tag_isKind tag_outside isK
  simp only [cnd_if]
  by_cases h1 : k < 192
  · rw [if_pos h1, bnd_pure]; simp; omega
  · rw [if_neg h1, bnd_pure]
    by_cases h2 : 254 < k
    · simp [h2]; omega
    · simp only [h2, decide_false, Bool.not_false, cnd_true]
      by_cases h3 : k = 216
      · subst h3; rfl
      · rw [if_pos h3]; congr 1; simp only [decide_eq_decide]; omega

theorem isK_ref (k : Int) : R_segmentKind k = some (isK k) := by
  unfold R_segmentKind isK
  simp only [cnd_if]
  by_cases h1 : 192 ≤ k
  · rw [if_pos h1]
    by_cases h2 : k ≤ 254
    · rw [if_pos h2]
      by_cases h3 : k = 216
      · subst h3; rfl
      · rw [if_pos h3]; congr 1; simp only [decide_eq_decide]; omega
    · rw [if_neg h2]; simp; omega
  · rw [if_neg h1]; simp; omega

theorem oct2 {a : List UInt8} {at_ i : Nat} {x y : Int} (h : at_ + i < a.length) (hx : x = i) (hy : y = at_ + i) : ∃ b : Int, gOct (a.drop at_) x = some b ∧ gOct a y = some b ∧ 0 ≤ b ∧ b ≤ 255 := by
  subst hx hy
  refine ⟨(a[at_ + i].toNat : Int), ?_, ?_, by omega, ?_⟩
  · rw [gOct_nat (by rw [List.length_drop]; omega), List.getElem_drop]
  · rw [show (at_ : Int) + (i : Int) = ((at_ + i : Nat) : Int) by omega, gOct_nat h]
  · have := a[at_ + i].toNat_lt; omega

theorem cut2 {a : List UInt8} {at_ i j : Nat} {x y u v : Int} (hij : i ≤ j) (h : at_ + j ≤ a.length) (hx : x = i) (hy : y = j) (hu : u = at_ + i) (hv : v = at_ + j) : ∃ t, gCut (a.drop at_) x y = some t ∧ gCut a u v = some t := by
  subst hx hy hu hv
  refine ⟨(a.drop (at_ + i)).take (j - i), ?_, ?_⟩
  · rw [gCut_ok ⟨by omega, by omega, by rw [List.length_drop]; omega⟩, Int.toNat_natCast, Int.toNat_natCast, List.drop_drop]
  · rw [gCut_ok ⟨by omega, by omega, by omega⟩]
    rw [show ((at_ : Int) + (i : Int)).toNat = at_ + i by omega, show ((at_ : Int) + (j : Int)).toNat - (at_ + i) = j - i by omega]

theorem rest2 {a : List UInt8} {at_ i : Nat} {x : Int} (h : at_ + i ≤ a.length) (hx : x = i) : gCut (a.drop at_) x ((a.drop at_).length : Nat) = some (a.drop (at_ + i)) := by
  subst hx
  rw [gCut_from ⟨by omega, by rw [List.length_drop]; omega⟩, Int.toNat_natCast, List.drop_drop]

theorem shl8 {b : Int} (h : 0 ≤ b ∧ b ≤ 255) : ∃ t, gShl b 8 = some t := by
  have e : (2 : Int) ^ (8 : Int).toNat = 256 := by decide
  unfold gShl
  rw [if_pos ⟨by decide, by decide⟩, e]
  exact ⟨_, gI_ok (by omega)⟩

theorem app1 {l : List T_tag_Segment} (x : T_tag_Segment) (h : l.length ≤ 200000) : gApp 24 l [x] = some (l ++ [x]) := gApp_ok ⟨by simp; omega, by simp; omega⟩

theorem seg_loop (a : List UInt8) (ha : a.length ≤ 200000) : ∀ (m at_ : Nat) (l : List T_tag_Segment), a.length - at_ = m → at_ ≤ a.length → l.length ≤ at_ →
    ∃ r, fix (fun next s => tag_Segments_l2 next s.1 s.2) (a.drop at_, l) = some r ∧ fix (fun next s => R_SegmentsOf_l2 a next s.1 s.2) ((at_ : Int), l) = some r ∧ (r.2 ≠ 0 → r.1 = []) ∧ r.1.length ≤ 200001 := by
  intro m
  induction m using Nat.strongRecOn with
  | _ m ih =>
  intro at_ l hm hle hl
  have hx : (a.drop at_).length = a.length - at_ := List.length_drop
  by_cases h2 : a.length - at_ < 2
  · refine ⟨([], 8), fix_done fun next => ?_, fix_done fun next => ?_, fun _ => rfl, by simp⟩
    · simp (disch := first | assumption | omega) only [tag_Segments_l2, cnd_if, if_pos]
    · simp (disch := first | assumption | omega) only [R_SegmentsOf_l2, gI_ok, bnd_pure, cnd_if, if_pos]
  obtain ⟨b0, e0, f0, r0⟩ := oct2 (a := a) (at_ := at_) (i := 0) (x := 0) (y := at_) (by omega) rfl (by omega)
  obtain ⟨b1, e1, f1, r1⟩ := oct2 (a := a) (at_ := at_) (i := 1) (x := 1) (y := at_ + 1) (by omega) rfl (by omega)
  by_cases h3 : b0 ≠ 255
  · refine ⟨([], 8), fix_done fun next => ?_, fix_done fun next => ?_, fun _ => rfl, by simp⟩
    · simp (disch := first | assumption | omega) only [tag_Segments_l2, cnd_if, if_pos, if_neg, e0, bnd_pure]
    · simp (disch := first | assumption | omega) only [R_SegmentsOf_l2, gI_ok, bnd_pure, cnd_if, if_pos, if_neg, f0]
  cases hk : isK b1 with
  | false =>
    refine ⟨([], 8), fix_done fun next => ?_, fix_done fun next => ?_, fun _ => rfl, by simp⟩
    · simp (disch := first | assumption | omega) only [tag_Segments_l2, cnd_if, if_pos, if_neg, e0, e1, bnd_pure, gK_ok, isK_tag, hk, Bool.not_false, cnd_true]
    · simp (disch := first | assumption | omega) only [R_SegmentsOf_l2, gI_ok, bnd_pure, cnd_if, if_pos, if_neg, f0, f1, gK_ok, isK_ref, hk, Bool.not_false, cnd_true]
  | true =>
  by_cases h4 : b1 = 218
  · by_cases h5 : a.length - at_ < 4
    · refine ⟨([], 8), fix_done fun next => ?_, fix_done fun next => ?_, fun _ => rfl, by simp⟩
      · simp (disch := first | assumption | omega) only [tag_Segments_l2, tag_Segments_j1, cnd_if, if_pos, if_neg, e0, e1, bnd_pure, gK_ok, isK_tag, hk, Bool.not_true, cnd_false]
      · simp (disch := first | assumption | omega) only [R_SegmentsOf_l2, gI_ok, bnd_pure, cnd_if, if_pos, if_neg, f0, f1, gK_ok, isK_ref, hk, Bool.not_true, cnd_false]
    · obtain ⟨t, c1, c2⟩ := cut2 (a := a) (at_ := at_) (i := a.length - at_ - 2) (j := a.length - at_) (x := ((a.drop at_).length : Int) - 2) (y := ((a.drop at_).length : Int)) (u := (a.length : Int) - 2) (v := (a.length : Int)) (by omega) (by omega) (by omega) (by omega) (by omega) (by omega)
      obtain ⟨u, c3, c4⟩ := cut2 (a := a) (at_ := at_) (i := 2) (j := a.length - at_ - 2) (x := 2) (y := ((a.drop at_).length : Int) - 2) (u := (at_ : Int) + 2) (v := (a.length : Int) - 2) (by omega) (by omega) (by omega) (by omega) (by omega) (by omega)
      have ha1 := app1 (l := l) ⟨218, u⟩ (by omega)
      have ha2 : gApp 24 l [(⟨b1, u⟩ : T_tag_Segment)] = some (l ++ [⟨218, u⟩]) := by rw [h4]; exact ha1
      by_cases h6 : t = [255, 217]
      · have hd : ¬ (t ≠ [255, 217]) := by simp [h6]
        by_cases h7 : 200 < ((l ++ [(⟨218, u⟩ : T_tag_Segment)]).length : Int)
        · refine ⟨([], 4), fix_done fun next => ?_, fix_done fun next => ?_, fun _ => rfl, by simp⟩
          · simp (disch := first | assumption | omega) only [tag_Segments_l2, tag_Segments_j1, gI_ok, c1, c3, ha1, cnd_if, if_pos, if_neg, e0, e1, bnd_pure, gK_ok, isK_tag, hk, Bool.not_true, cnd_false]
          · simp (disch := first | assumption | omega) only [R_SegmentsOf_l2, R_SegmentsOf_j1, c2, c4, ha2, gI_ok, bnd_pure, cnd_if, if_pos, if_neg, f0, f1, gK_ok, isK_ref, hk, Bool.not_true, cnd_false]
        · refine ⟨(l ++ [(⟨218, u⟩ : T_tag_Segment)], 0), fix_done fun next => ?_, fix_done fun next => ?_, fun h => absurd rfl h, by simp; omega⟩
          · simp (disch := first | assumption | omega) only [tag_Segments_l2, tag_Segments_j1, gI_ok, c1, c3, ha1, cnd_if, if_pos, if_neg, e0, e1, bnd_pure, gK_ok, isK_tag, hk, Bool.not_true, cnd_false]
          · simp (disch := first | assumption | omega) only [R_SegmentsOf_l2, R_SegmentsOf_j1, c2, c4, ha2, gI_ok, bnd_pure, cnd_if, if_pos, if_neg, f0, f1, gK_ok, isK_ref, hk, Bool.not_true, cnd_false]
      · have hd : t ≠ [255, 217] := h6
        refine ⟨([], 8), fix_done fun next => ?_, fix_done fun next => ?_, fun _ => rfl, by simp⟩
        · simp (disch := first | assumption | omega) only [tag_Segments_l2, tag_Segments_j1, gI_ok, c1, cnd_if, if_pos, if_neg, e0, e1, bnd_pure, gK_ok, isK_tag, hk, Bool.not_true, cnd_false]
        · simp (disch := first | assumption | omega) only [R_SegmentsOf_l2, c2, gI_ok, bnd_pure, cnd_if, if_pos, if_neg, f0, f1, gK_ok, isK_ref, hk, Bool.not_true, cnd_false]
  · by_cases h5 : a.length - at_ < 4
    · refine ⟨([], 8), fix_done fun next => ?_, fix_done fun next => ?_, fun _ => rfl, by simp⟩
      · simp (disch := first | assumption | omega) only [tag_Segments_l2, cnd_if, if_pos, if_neg, e0, e1, bnd_pure, gK_ok, isK_tag, hk, Bool.not_true, cnd_false]
      · simp (disch := first | assumption | omega) only [R_SegmentsOf_l2, gI_ok, bnd_pure, cnd_if, if_pos, if_neg, f0, f1, gK_ok, isK_ref, hk, Bool.not_true, cnd_false]
    obtain ⟨b2, e2, f2, r2⟩ := oct2 (a := a) (at_ := at_) (i := 2) (x := 2) (y := at_ + 2) (by omega) rfl (by omega)
    obtain ⟨b3, e3, f3, r3⟩ := oct2 (a := a) (at_ := at_) (i := 3) (x := 3) (y := at_ + 2 + 1) (by omega) rfl (by omega)
    obtain ⟨t, es⟩ := shl8 r2
    generalize hN : wI64 (bOr 64 t b3) = N
    by_cases h6 : N < 2
    · refine ⟨([], 8), fix_done fun next => ?_, fix_done fun next => ?_, fun _ => rfl, by simp⟩
      · simp (disch := first | assumption | omega) only [tag_Segments_l2, cnd_if, if_pos, if_neg, e0, e1, e2, e3, es, hN, bnd_pure, gK_ok, isK_tag, hk, Bool.not_true, cnd_false]
      · simp (disch := first | assumption | omega) only [R_SegmentsOf_l2, gI_ok, bnd_pure, cnd_if, if_pos, if_neg, f0, f1, f2, f3, es, hN, gK_ok, isK_ref, hk, Bool.not_true, cnd_false]
    by_cases h7 : (a.length : Int) - at_ - 2 < N
    · refine ⟨([], 8), fix_done fun next => ?_, fix_done fun next => ?_, fun _ => rfl, by simp⟩
      · simp (disch := first | assumption | omega) only [tag_Segments_l2, cnd_if, if_pos, if_neg, e0, e1, e2, e3, es, hN, bnd_pure, gI_ok, gK_ok, isK_tag, hk, Bool.not_true, cnd_false]
      · simp (disch := first | assumption | omega) only [R_SegmentsOf_l2, gI_ok, bnd_pure, cnd_if, if_pos, if_neg, f0, f1, f2, f3, es, hN, gK_ok, isK_ref, hk, Bool.not_true, cnd_false]
    obtain ⟨u, c1, c2⟩ := cut2 (a := a) (at_ := at_) (i := 4) (j := 2 + N.toNat) (x := 4) (y := 2 + N) (u := (at_ : Int) + 2 + 2) (v := (at_ : Int) + 2 + N) (by omega) (by omega) (by omega) (by omega) (by omega) (by omega)
    have c3 := rest2 (a := a) (at_ := at_) (i := 2 + N.toNat) (x := 2 + N) (by omega) (by omega)
    have ha1 := app1 (l := l) ⟨b1, u⟩ (by omega)
    obtain ⟨r, g1, g2, g3⟩ := ih (a.length - (at_ + (2 + N.toNat))) (by omega) (at_ + (2 + N.toNat)) (l ++ [⟨b1, u⟩]) rfl (by omega) (by simp; omega)
    refine ⟨r, ?_, ?_, g3⟩
    · rw [← g1]
      refine fix_goto _ fun next => ?_
      simp (disch := first | assumption | omega) only [tag_Segments_l2, cnd_if, if_pos, if_neg, e0, e1, e2, e3, es, hN, c1, c3, ha1, bnd_pure, gI_ok, gK_ok, isK_tag, hk, Bool.not_true, cnd_false]
    · rw [← g2]
      refine fix_goto _ fun next => ?_
      simp (disch := first | assumption | omega) only [R_SegmentsOf_l2, gI_ok, bnd_pure, cnd_if, if_pos, if_neg, f0, f1, f2, f3, es, hN, c2, ha1, gK_ok, isK_ref, hk, Bool.not_true, cnd_false]
      congr 2
      omega

theorem seg_eq (a : List UInt8) : ∃ r, tag_Segments a = some r ∧ R_SegmentsOf a = some r ∧ (r.2 ≠ 0 → r.1 = []) ∧ r.1.length ≤ 200001 := by
  by_cases h0 : 200000 < a.length
  · refine ⟨([], 4), ?_, ?_, fun _ => rfl, by simp⟩
    · simp (disch := first | assumption | omega) only [tag_Segments, cnd_if, if_pos]
    · simp (disch := first | assumption | omega) only [R_SegmentsOf, cnd_if, if_pos]
  by_cases h2 : a.length < 2
  · refine ⟨([], 8), ?_, ?_, fun _ => rfl, by simp⟩
    · simp (disch := first | assumption | omega) only [tag_Segments, cnd_if, if_pos, if_neg]
    · have e1 : strings_HasPrefix a [255, 216] = some false := by
        unfold strings_HasPrefix internal_stringslite_HasPrefix
        simp only [List.length_cons, List.length_nil, cnd_if]
        rw [if_neg (by omega)]; rfl
      simp (disch := first | assumption | omega) only [R_SegmentsOf, cnd_if, if_neg, e1, bnd_pure, Bool.not_false, cnd_true]
  have c1 : gCut a 0 2 = some (a.take 2) := gCut_to (by omega)
  have c2 : gCut a 2 a.length = some (a.drop 2) := gCut_from (by omega)
  have e1 : strings_HasPrefix a [255, 216] = some (decide (a.take 2 = [255, 216])) := by
    unfold strings_HasPrefix internal_stringslite_HasPrefix
    simp only [List.length_cons, List.length_nil, cnd_if]
    rw [if_pos (by omega)]
    rw [show ((0 + 1 + 1 : Nat) : Int) = 2 from rfl, c1]
    rfl
  by_cases h3 : a.take 2 = [255, 216]
  · obtain ⟨r, g1, g2, g3⟩ := seg_loop a (by omega) (a.length - 2) 2 [] rfl (by omega) (by simp)
    have hd : ¬ (a.take 2 ≠ [255, 216]) := by simp [h3]
    have hd2 : decide (a.take 2 = [255, 216]) = true := by simp [h3]
    refine ⟨r, ?_, ?_, g3⟩
    · simp (disch := first | assumption | omega) only [tag_Segments, cnd_if, if_neg, c1, c2, bnd_pure]
      exact g1
    · simp (disch := first | assumption | omega) only [R_SegmentsOf, cnd_if, if_neg, e1, hd2, bnd_pure, Bool.not_true, cnd_false]
      exact g2
  · have hd : a.take 2 ≠ [255, 216] := h3
    have hd2 : decide (a.take 2 = [255, 216]) = false := by simp [h3]
    refine ⟨([], 8), ?_, ?_, fun _ => rfl, by simp⟩
    · simp (disch := first | assumption | omega) only [tag_Segments, cnd_if, if_pos, if_neg, c1, c2, bnd_pure]
    · simp (disch := first | assumption | omega) only [R_SegmentsOf, cnd_if, if_neg, e1, hd2, bnd_pure, Bool.not_false, cnd_true]

end Go.M
