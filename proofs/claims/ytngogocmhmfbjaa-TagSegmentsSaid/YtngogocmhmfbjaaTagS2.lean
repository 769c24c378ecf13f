/- Segments of a picture file: joining; and the law, where the texts are not longer than any machine bears. Conditions: none. -/
import Derived.Test.YtngogocmhmfbjaaTagS
namespace Go.M
open Go.Md Go.Pl
set_option maxHeartbeats 4000000
set_option maxRecDepth 100000

/-! ### numbers of two octets -/

theorem shr0 (n : Int) : gShr 64 n 0 = some n := by
  unfold gShr
  rw [if_pos (by decide)]
  have : (2 : Int) ^ (min (0 : Int).toNat 64) = 1 := by decide
  simp [this]
theorem shr8 (n : Int) : gShr 64 n 8 = some (n / 256) := by
  unfold gShr
  rw [if_pos (by decide)]
  rfl

theorem num_tag (n : Int) : tag_number true n 2 = some [wU8 (n / 256), wU8 n] := by
  unfold tag_number
  rw [gMake_ok (by decide), bnd_pure]
  have step : ∀ (k : Nat) (x y : Int), k < 2 → fix (fun next1 s => tag_number_l1 true n 2 (List.replicate (Int.toNat 2) 0) next1 s.1 s.2) ((k : Int), [x, y]) = fix (fun next1 s => tag_number_l1 true n 2 (List.replicate (Int.toNat 2) 0) next1 s.1 s.2) (((k + 1 : Nat) : Int), if k = 0 then [x, wU8 n] else [wU8 (n / 256), y]) := by
    intro k x y hk
    refine fix_goto _ fun next => ?_
    have hl : (List.replicate (Int.toNat 2) (0 : Int)).length = 2 := rfl
    simp (disch := first | assumption | omega) only [tag_number_l1, tag_number_j2, hl, cnd_if, if_pos, cnd_true, gI_ok, bnd_pure]
    match k, hk with
    | 0, _ =>
      rw [show (8 : Int) * ((0 : Nat) : Int) = 0 from rfl, shr0]
      rfl
    | 1, _ =>
      rw [show (8 : Int) * ((1 : Nat) : Int) = 8 from rfl, shr8]
      rfl
  have h0 := step 0 0 0 (by omega)
  have h1 := step 1 0 (wU8 n) (by omega)
  simp only [if_pos] at h0
  rw [if_neg (by omega)] at h1
  refine (h0.trans h1).trans (fix_done fun next => ?_)
  have hl : (List.replicate (Int.toNat 2) (0 : Int)).length = 2 := rfl
  simp (disch := first | assumption | omega) only [tag_number_l1, hl, cnd_if, if_neg]

theorem num_ref (n : Int) : R_number true n 2 = some (toStr [wU8 (n / 256), wU8 n]) := by
  unfold R_number
  rw [gMake_ok (by decide), bnd_pure]
  have step : ∀ (k : Nat) (x y : Int), k < 2 → fix (fun next2 s => R_number_l2 true n 2 (List.replicate (Int.toNat 2) 0) next2 s.1 s.2) ((k : Int), [x, y]) = fix (fun next2 s => R_number_l2 true n 2 (List.replicate (Int.toNat 2) 0) next2 s.1 s.2) (((k + 1 : Nat) : Int), if k = 0 then [x, wU8 n] else [wU8 (n / 256), y]) := by
    intro k x y hk
    refine fix_goto _ fun next => ?_
    have hl : (List.replicate (Int.toNat 2) (0 : Int)).length = 2 := rfl
    simp (disch := first | assumption | omega) only [R_number_l2, R_number_j3, hl, cnd_if, if_pos, cnd_true, gI_ok, bnd_pure]
    match k, hk with
    | 0, _ =>
      rw [show (8 : Int) * ((0 : Nat) : Int) = 0 from rfl, shr0]
      rfl
    | 1, _ =>
      rw [show (8 : Int) * ((1 : Nat) : Int) = 8 from rfl, shr8]
      rfl
  have h0 := step 0 0 0 (by omega)
  have h1 := step 1 0 (wU8 n) (by omega)
  simp only [if_pos] at h0
  rw [if_neg (by omega)] at h1
  refine (h0.trans h1).trans (fix_done fun next => ?_)
  have hl : (List.replicate (Int.toNat 2) (0 : Int)).length = 2 := rfl
  simp (disch := first | assumption | omega) only [R_number_l2, R_number_j1, hl, cnd_if, if_neg]

theorem wU8_bd (x : Int) : 0 ≤ wU8 x ∧ wU8 x ≤ 255 := by unfold wU8; omega

theorem of_to {xs : List Int} (h : ∀ x ∈ xs, 0 ≤ x ∧ x ≤ 255) : ofStr (toStr xs) = xs := by
  unfold ofStr toStr
  rw [List.map_map]
  conv => rhs; rw [← List.map_id xs]
  refine List.map_congr_left fun x hx => ?_
  have := h x hx
  have e : (UInt8.ofNat x.toNat).toNat = x.toNat % 256 := UInt8.toNat_ofNat'
  show ((UInt8.ofNat x.toNat).toNat : Int) = x
  rw [e]; omega

theorem to_of (s : List UInt8) : toStr (ofStr s) = s := by
  unfold ofStr toStr
  rw [List.map_map]
  conv => rhs; rw [← List.map_id s]
  refine List.map_congr_left fun x hx => ?_
  show UInt8.ofNat ((x.toNat : Int)).toNat = x
  simp

theorem ofStr_app (a b : List UInt8) : ofStr (a ++ b) = ofStr a ++ ofStr b := List.map_append
theorem toStr_app (a b : List Int) : toStr (a ++ b) = toStr a ++ toStr b := List.map_append
theorem ofStr_len (a : List UInt8) : (ofStr a).length = a.length := List.length_map _
theorem toStr_len (a : List Int) : (toStr a).length = a.length := List.length_map _

/-! ### joining -/

theorem cnd_not {α : Type} (b : Bool) (x y : Option α) : cnd (!b) x y = cnd b y x := by cases b <;> rfl

/-- What the two loops hold: the same octets, or both too many. -/
def Alike (out : List Int) (s : List UInt8) : Prop := out = ofStr s ∨ (200000 < out.length ∧ 200000 < s.length)

theorem Alike.add {out : List Int} {s : List UInt8} (h : Alike out s) (xs : List Int) (hx : ∀ x ∈ xs, 0 ≤ x ∧ x ≤ 255) : Alike (out ++ xs) (s ++ toStr xs) := by
  rcases h with rfl | ⟨h1, h2⟩
  · left; rw [ofStr_app, of_to hx]
  · right; simp only [List.length_append]; omega

theorem Alike.text {out : List Int} {s : List UInt8} (h : Alike out s) (t : List UInt8) : Alike (if (out.length : Int) ≤ 200000 then out ++ ofStr t else out) (s ++ t) := by
  rcases h with rfl | ⟨h1, h2⟩
  · rw [ofStr_len]
    split
    · left; rw [ofStr_app]
    · right; rw [ofStr_len, List.length_append]; omega
  · right
    rw [if_neg (by omega), List.length_append]; omega

theorem join_end {out : List Int} {s : List UInt8} (h : Alike out s) (h1 : out.length ≤ 140737488701000) (h2 : s.length ≤ 100000000000000000) :
    ∃ r, tag_Joined_j1 out = some r ∧ R_JoinedOf_j1 s = some r ∧ (r.2 ≠ 0 → r.1 = []) := by
  have e1 : gApL 1 out [255, 217] = some (out ++ [255, 217]) := gApL_ok ⟨by simp; omega, by simp; omega⟩
  have e2 : gCat s [255, 217] = some (s ++ [255, 217]) := gCat_ok (by simp; omega)
  unfold tag_Joined_j1 R_JoinedOf_j1
  rw [e1, e2, bnd_pure, bnd_pure]
  have h3 : Alike (out ++ [255, 217]) (s ++ [255, 217]) := h.add [255, 217] (by decide)
  simp only [cnd_if]
  rcases h3 with h3 | ⟨h3, h4⟩
  · rw [h3, ofStr_len, to_of]
    by_cases h5 : 200000 < ((s ++ [255, 217]).length : Int)
    · exact ⟨([], 4), by rw [if_pos h5], by rw [if_pos h5], fun _ => rfl⟩
    · exact ⟨(s ++ [255, 217], 0), by rw [if_neg h5], by rw [if_neg h5], fun h => absurd rfl h⟩
  · exact ⟨([], 4), by rw [if_pos (by omega)], by rw [if_pos (by omega)], fun _ => rfl⟩

theorem ref_head {l : List T_tag_Segment} {next : (List UInt8) × Int → Option ((List UInt8) × Int)} {s : List UInt8} {k : Nat} {x : T_tag_Segment} (hkl : k < l.length) (hn : l.length ≤ 200) (eat : gAt l (k : Int) = some x) (hK : isK x.Kind = true)
    (hlast : ¬ (decide (x.Kind = 218)) ≠ (decide ((k : Int) = (l.length : Int) - 1))) (hlong : x.Kind ≠ 218 → ¬ 65533 < (x.Text.length : Int)) : R_JoinedOf_l2 l next s (k : Int) = R_JoinedOf_j3 s (k : Int) next x := by
  have h1 : (k : Int) < (l.length : Int) := by omega
  unfold R_JoinedOf_l2
  rw [cnd_if, if_pos h1, eat, bnd_pure, isK_ref, hK, bnd_pure, cnd_not, cnd_true, gI_ok (by omega), bnd_pure, cnd_if, if_neg hlast, cnd_not, cnd_if]
  split
  · rfl
  · rename_i h; rw [cnd_if, if_neg (hlong h)]

theorem ref_last {next : (List UInt8) × Int → Option ((List UInt8) × Int)} {s c u : List UInt8} {k : Nat} {x : T_tag_Segment} (h218 : x.Kind = 218) (ec1 : gCat [255] (toStr [wU8 x.Kind]) = some c) (ec2 : gCat s c = some u) : R_JoinedOf_j3 s (k : Int) next x = R_JoinedOf_j4 (k : Int) next x u := by
  unfold R_JoinedOf_j3
  rw [ec1, bnd_pure, ec2, bnd_pure, cnd_not, cnd_if, if_pos h218]

theorem ref_mid {next : (List UInt8) × Int → Option ((List UInt8) × Int)} {s c u v w : List UInt8} {k : Nat} {x : T_tag_Segment} (h218 : ¬ x.Kind = 218) (ec1 : gCat [255] (toStr [wU8 x.Kind]) = some c) (ec2 : gCat s c = some u) (ht : x.Text.length ≤ 140737488351232) (er : R_number true ((x.Text.length : Int) + 2) 2 = some v) (ec3 : gCat u v = some w) : R_JoinedOf_j3 s (k : Int) next x = R_JoinedOf_j4 (k : Int) next x w := by
  unfold R_JoinedOf_j3
  rw [ec1, bnd_pure, ec2, bnd_pure, cnd_not, cnd_if, if_neg h218, gI_ok (by omega), bnd_pure, er, bnd_pure, ec3, bnd_pure]
theorem join_loop (l : List T_tag_Segment) (hn : l.length ≤ 200) (ht : ∀ x ∈ l, x.Text.length ≤ 140737488351232) : ∀ (d k B : Nat) (out : List Int) (s : List UInt8), k + d = l.length → Alike out s → out.length ≤ 140737488700000 + k * 4 → s.length ≤ B → B + d * 140737488351240 ≤ 100000000000000000 →
    ∃ r, fix (fun next s => tag_Joined_l2 l next s.1 s.2) ((k : Int), out) = some r ∧ fix (fun next s => R_JoinedOf_l2 l next s.1 s.2) (s, (k : Int)) = some r ∧ (r.2 ≠ 0 → r.1 = []) := by
  intro d
  induction d with
  | zero =>
    intro k B out s hk hA h1 h2 hB
    obtain ⟨r, g1, g2, g3⟩ := join_end hA (by omega) (by omega)
    refine ⟨r, fix_done fun next => ?_, fix_done fun next => ?_, g3⟩
    · simp (disch := first | assumption | omega) only [tag_Joined_l2, cnd_if, if_neg]; exact g1
    · simp (disch := first | assumption | omega) only [R_JoinedOf_l2, cnd_if, if_neg]; exact g2
  | succ d ih =>
    intro k B out s hk hA h1 h2 hB
    have hkl : k < l.length := by omega
    have hB1 : B ≤ 99859262511648760 := by omega
    have hB2 : B + 140737488351240 + d * 140737488351240 ≤ 100000000000000000 := by omega
    clear hB
    have eat := gAt_nat hkl
    generalize hx : l[k] = x at eat
    have hxt : x.Text.length ≤ 140737488351232 := ht x (by rw [← hx]; exact List.getElem_mem hkl)
    have hi : gI ((l.length : Int) - 1) = some ((l.length : Int) - 1) := gI_ok (by omega)
    cases hK : isK x.Kind with
    | false =>
      refine ⟨([], 10), fix_done fun next => ?_, fix_done fun next => ?_, fun _ => rfl⟩
      · simp (disch := first | assumption | omega) only [tag_Joined_l2, tag_checkSegment, isK_tag, hK, cnd_if, if_pos, eat, hi, bnd_pure, Bool.not_false, cnd_true]
      · simp (disch := first | assumption | omega) only [R_JoinedOf_l2, isK_ref, hK, cnd_if, if_pos, eat, bnd_pure, Bool.not_false, cnd_true]
    | true =>
    have hkb : 192 ≤ x.Kind ∧ x.Kind ≤ 254 := by unfold isK at hK; simp at hK; omega
    by_cases hlast : (decide (x.Kind = 218)) ≠ (decide ((k : Int) = (l.length : Int) - 1))
    · refine ⟨([], 5), fix_done fun next => ?_, fix_done fun next => ?_, fun _ => rfl⟩
      · simp (disch := first | assumption | omega) only [tag_Joined_l2, tag_checkSegment, isK_tag, hK, cnd_if, if_pos, eat, hi, bnd_pure, Bool.not_true, cnd_false]
      · simp (disch := first | assumption | omega) only [R_JoinedOf_l2, isK_ref, hK, cnd_if, if_pos, eat, hi, bnd_pure, Bool.not_true, cnd_false]
    have hA1 : Alike (out ++ [255, wU8 x.Kind]) (s ++ toStr [255, wU8 x.Kind]) := hA.add _ (by
      intro y hy
      rcases List.mem_cons.1 hy with rfl | hy
      · omega
      · rcases List.mem_cons.1 hy with rfl | hy
        · exact wU8_bd _
        · cases hy)
    have ea1 : gApL 1 out [255, wU8 x.Kind] = some (out ++ [255, wU8 x.Kind]) := gApL_ok ⟨by simp; omega, by simp; omega⟩
    have ec1 : gCat [255] (toStr [wU8 x.Kind]) = some (toStr [255, wU8 x.Kind]) := gCat_ok (by simp [toStr])
    have hl1 : (toStr [255, wU8 x.Kind]).length = 2 := rfl
    have ec2 : gCat s (toStr [255, wU8 x.Kind]) = some (s ++ toStr [255, wU8 x.Kind]) := gCat_ok (by omega)
    -- the step, once the octets ahead of the text are there
    have fin : ∀ (o : List Int) (u : List UInt8), Alike o u → o.length ≤ 140737488700000 + k * 4 + 4 → u.length ≤ B + 4 →
        (∀ next, tag_Joined_l2 l next (k : Int) out = tag_Joined_j4 (k : Int) next x o) → (∀ next, R_JoinedOf_l2 l next s (k : Int) = R_JoinedOf_j4 (k : Int) next x u) →
        ∃ r, fix (fun next s => tag_Joined_l2 l next s.1 s.2) ((k : Int), out) = some r ∧ fix (fun next s => R_JoinedOf_l2 l next s.1 s.2) (s, (k : Int)) = some r ∧ (r.2 ≠ 0 → r.1 = []) := by
      intro o u hA2 ho hu e1 e2
      have hA3 := hA2.text x.Text
      have hol : (if (o.length : Int) ≤ 200000 then o ++ ofStr x.Text else o).length ≤ 140737488700000 + (k + 1) * 4 := by
        split
        · rw [List.length_append, ofStr_len]; omega
        · omega
      obtain ⟨r, g1, g2, g3⟩ := ih (k + 1) (B + 140737488351240) _ (u ++ x.Text) (by omega) hA3 hol (by rw [List.length_append]; omega) hB2
      refine ⟨r, ?_, ?_, g3⟩
      · rw [← g1]
        refine fix_goto _ fun next => ?_
        show tag_Joined_l2 l next (k : Int) out = _
        rw [e1]
        have hi1 : gI ((k : Int) + 1) = some ((k + 1 : Nat) : Int) := gI_ok (by omega)
        simp only [tag_Joined_j4, tag_Joined_j3, cnd_if, hi1, bnd_pure]
        split
        · rw [gApL_ok ⟨by rw [ofStr_len]; omega, by rw [ofStr_len]; omega⟩, bnd_pure]
        · rfl
      · rw [← g2]
        refine fix_goto _ fun next => ?_
        show R_JoinedOf_l2 l next s (k : Int) = _
        rw [e2]
        have hi1 : gI ((k : Int) + 1) = some ((k + 1 : Nat) : Int) := gI_ok (by omega)
        simp only [R_JoinedOf_j4, hi1, bnd_pure]
        rw [gCat_ok (by omega), bnd_pure]
    by_cases h218 : x.Kind = 218
    · refine fin _ _ hA1 (by simp; omega) (by rw [List.length_append]; omega) (fun next => ?_) (fun next => ?_)
      · have hne : ¬ x.Kind ≠ 218 := fun h => h h218
        have h00 : ¬ (0 : Int) ≠ 0 := by omega
        simp (disch := first | assumption | omega) only [tag_Joined_l2, tag_checkSegment, isK_tag, hK, cnd_if, if_pos, if_neg, eat, hi, ea1, bnd_pure, Bool.not_true, cnd_false]
      · exact (ref_head hkl hn eat hK hlast (fun h => absurd h218 h)).trans (ref_last h218 ec1 ec2)
    · by_cases hlong : 65533 < (x.Text.length : Int)
      · have h218' : x.Kind ≠ 218 := h218
        have h40 : (4 : Int) ≠ 0 := by omega
        refine ⟨([], 4), fix_done fun next => ?_, fix_done fun next => ?_, fun _ => rfl⟩
        · simp (disch := first | assumption | omega) only [tag_Joined_l2, tag_checkSegment, isK_tag, hK, cnd_if, if_pos, if_neg, eat, hi, bnd_pure, Bool.not_true, cnd_false]
        · simp (disch := first | assumption | omega) only [R_JoinedOf_l2, isK_ref, hK, cnd_not, cnd_if, if_pos, if_neg, eat, hi, bnd_pure, cnd_true]
      · generalize hv : ([wU8 (((x.Text.length : Int) + 2) / 256), wU8 ((x.Text.length : Int) + 2)] : List Int) = v
        have hvl : v.length = 2 := by rw [← hv]; rfl
        have hA2 : Alike (out ++ [255, wU8 x.Kind] ++ v) (s ++ toStr [255, wU8 x.Kind] ++ toStr v) := hA1.add v (by
          intro y hy
          rw [← hv] at hy
          rcases List.mem_cons.1 hy with rfl | hy
          · exact wU8_bd _
          · rcases List.mem_cons.1 hy with rfl | hy
            · exact wU8_bd _
            · cases hy)
        have ea2 : gApL 1 (out ++ [255, wU8 x.Kind]) v = some (out ++ [255, wU8 x.Kind] ++ v) := gApL_ok ⟨by simp; omega, by simp; omega⟩
        have ec3 : gCat (s ++ toStr [255, wU8 x.Kind]) (toStr v) = some (s ++ toStr [255, wU8 x.Kind] ++ toStr v) := gCat_ok (by rw [List.length_append, toStr_len v]; omega)
        have ei : gI ((x.Text.length : Int) + 2) = some ((x.Text.length : Int) + 2) := gI_ok (by omega)
        have et := num_tag ((x.Text.length : Int) + 2)
        have er := num_ref ((x.Text.length : Int) + 2)
        rw [hv] at et er
        have h218' : x.Kind ≠ 218 := h218
        refine fin _ _ hA2 (by simp; omega) (by rw [List.length_append, List.length_append, toStr_len v]; omega) (fun next => ?_) (fun next => ?_)
        · have h00 : ¬ (0 : Int) ≠ 0 := by omega
          simp (disch := first | assumption | omega) only [tag_Joined_l2, tag_checkSegment, isK_tag, hK, cnd_if, if_pos, if_neg, eat, hi, ea1, ea2, ei, et, bnd_pure, Bool.not_true, cnd_false]
        · exact (ref_head hkl hn eat hK hlast (fun _ => hlong)).trans (ref_mid h218 ec1 ec2 hxt er ec3)

theorem join_eq (l : List T_tag_Segment) (ht : ∀ x ∈ l, x.Text.length ≤ 140737488351232) : ∃ r, tag_Joined l = some r ∧ R_JoinedOf l = some r ∧ (r.2 ≠ 0 → r.1 = []) := by
  by_cases h1 : 200 < (l.length : Int)
  · refine ⟨([], 4), ?_, ?_, fun _ => rfl⟩
    · simp (disch := first | assumption | omega) only [tag_Joined, cnd_if, if_pos]
    · simp (disch := first | assumption | omega) only [R_JoinedOf, cnd_if, if_pos]
  by_cases h2 : (l.length : Int) = 0
  · refine ⟨([], 5), ?_, ?_, fun _ => rfl⟩
    · simp (disch := first | assumption | omega) only [tag_Joined, cnd_if, if_pos, if_neg]
    · simp (disch := first | assumption | omega) only [R_JoinedOf, cnd_if, if_pos, if_neg]
  obtain ⟨r, g1, g2, g3⟩ := join_loop l (by omega) ht l.length 0 2 [255, 216] [255, 216] (by omega) (.inl rfl) (by simp) (by decide) (by omega)
  refine ⟨r, ?_, ?_, g3⟩
  · simp (disch := first | assumption | omega) only [tag_Joined, cnd_if, if_neg]; exact g1
  · simp (disch := first | assumption | omega) only [R_JoinedOf, cnd_if, if_neg]; exact g2

/-! ### the law -/

theorem equal_self (l : List T_tag_Segment) (h : l.length ≤ 9223372036854775807) : slices_Equal_tag_Segment l l = some true := by
  unfold slices_Equal_tag_Segment
  rw [cnd_if, if_neg (by omega)]
  refine up l.length (fun _ => some true) fun next k hk ih => ?_
  show slices_Equal_tag_Segment_l1 l l next (k : Int) = some true
  unfold slices_Equal_tag_Segment_l1
  by_cases h1 : k < l.length
  · have e : eq_tag_Segment l[k] l[k] = true := by unfold eq_tag_Segment; simp
    rw [cnd_if, if_pos (by omega), gAt_nat h1, bnd_pure, bnd_pure, e, gI_ok (by omega), bnd_pure]
    exact ih h1
  · rw [cnd_if, if_neg (by omega)]

theorem segments (a : List UInt8) (l : List T_tag_Segment) (ht : ∀ x ∈ l, x.Text.length ≤ 140737488351232) : Law_TagSegments a l = some true := by
  obtain ⟨r, g1, g2, g3, g4⟩ := seg_eq a
  obtain ⟨q, j1, j2, j3⟩ := join_eq l ht
  unfold Law_TagSegments
  rw [g1, g2, j1, j2]
  simp only [bnd_pure]
  have hr : r.1.length ≤ 9223372036854775807 := by omega
  have e1 : Law_listed_tag_Segment r.1 r.2 r.1 r.2 = some true := by
    unfold Law_listed_tag_Segment Law_listed_tag_Segment_j1
    rw [cnd_if]
    split
    · rename_i h
      rw [g3 h, equal_self [] (by simp)]
      simp
    · rw [equal_self r.1 hr]
      simp
  have e2 : Law_told_string q.1 q.2 q.1 q.2 = some true := by
    unfold Law_told_string Law_told_string_j1
    rw [cnd_if]
    split
    · rename_i h
      rw [j3 h]
      simp
    · simp
  rw [e1, e2]
  rfl

theorem segmentsS (a : List UInt8) (l : List T_tag_Segment) {P Q : Prop} {R S : T_tag_Segment → Prop} (_ : P) (h : Q ∧ ∀ x ∈ l, (R x) ∧ (S x ∧ x.Text.length ≤ 140737488351232)) : Law_TagSegments a l = some true :=
  segments a l fun x hx => (h.2 x hx).2.2

end Go.M
