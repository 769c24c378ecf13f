/- Images pixel by pixel: tone steps commute with turns and crops; recipes put apart; the law EditApart, in plain Lean. Conditions: none. -/
import Derived.Test.YtinpjnlocahjjaaDoorEeU
import Derived.Test.YtinpjnlocahjjaaDoorEePx
namespace Go.M
open Go.Md Go.Pl

/-! ### pixels -/

theorem flat3 {f : Nat → List Int} : ∀ (n k : Nat), (∀ i, i < n → (f i).length = 3) → k < n → (((List.range n).flatMap f).drop (3 * k)).take 3 = f k := by
  intro n
  induction n with
  | zero => intro k _ h; omega
  | succ n ih =>
    intro k hf hk
    rw [List.range_succ, List.flatMap_append, List.flatMap_singleton]
    have hl : ∀ m, m ≤ n → ((List.range m).flatMap f).length = 3 * m := by
      intro m
      induction m with
      | zero => intro _; rfl
      | succ m ihm => intro hm; rw [List.range_succ, List.flatMap_append, List.flatMap_singleton, List.length_append, ihm (by omega), hf m (by omega)]; omega
    rcases Nat.lt_or_ge k n with h | h
    · rw [List.drop_append_of_le_length (by rw [hl n (Nat.le_refl _)]; omega), List.take_append_of_le_length (by rw [List.length_drop, hl n (Nat.le_refl _)]; omega)]
      exact ih k (fun i hi => hf i (by omega)) h
    · have : k = n := by omega
      subst this
      rw [show 3 * k = ((List.range k).flatMap f).length from (hl k (Nat.le_refl _)).symm, List.drop_left, List.take_of_length_le (by rw [hf k (by omega)]; omega)]

def px3 (w h : Nat) (px : Nat → Nat → List Int) : Prop := ∀ x y, x < w → y < h → (px x y).length = 3

theorem px3.k {w h : Nat} {px : Nat → Nat → List Int} (p : px3 w h px) {k : Nat} (hk : k < w * h) : (px (k % w) (k / w)).length = 3 := by
  have hw : 0 < w := by
    rcases Nat.eq_zero_or_pos w with h0 | h0
    · subst h0; omega
    · exact h0
  exact p _ _ (Nat.mod_lt _ hw) (Nat.div_lt_of_lt_mul hk)

theorem pxN_img {w h : Nat} {px : Nat → Nat → List Int} (p : px3 w h px) {a b : Nat} (ha : a < w) (hb : b < h) : pxN w (imgL w h px) a b = px a b := by
  have h0 := idx_lt ha hb
  have := flat3 (f := fun k => px (k % w) (k / w)) (w * h) (b * w + a) (fun i hi => p.k hi) (by omega)
  unfold pxN imgL pre3
  rw [this]
  have h1 : (b * w + a) % w = a := by rw [Nat.mul_comm, Nat.mul_add_mod]; exact Nat.mod_eq_of_lt ha
  have h2 : (b * w + a) / w = b := by rw [Nat.mul_comm, Nat.mul_add_div (by omega), Nat.div_eq_of_lt ha, Nat.add_zero]
  rw [h1, h2]

theorem img_congr {w h : Nat} {px qx : Nat → Nat → List Int} (e : ∀ x y, x < w → y < h → px x y = qx x y) : imgL w h px = imgL w h qx := by
  unfold imgL pre3
  rw [List.flatMap_def, List.flatMap_def]
  congr 1
  refine List.map_congr_left fun k hk => ?_
  have hk := List.mem_range.1 hk
  have hw : 0 < w := by
    rcases Nat.eq_zero_or_pos w with h0 | h0
    · subst h0; omega
    · exact h0
  exact e _ _ (Nat.mod_lt _ hw) (Nat.div_lt_of_lt_mul hk)

theorem img_self {w h : Nat} {l : List Int} (m : Im w h l) : imgL w h (pxN w l) = l := by
  have h1 := turn_one m
  have h2 : imgL w h (turnPx 1 w h l) = imgL w h (pxN w l) := img_congr fun x y _ _ => by
    show pxN w l ((x : Nat) : Int).toNat ((y : Nat) : Int).toNat = _
    rw [Int.toNat_natCast, Int.toNat_natCast]
  rw [← h2, h1]

def tone1 (s : T_edit_Step) (q : List Int) : List Int := [dotS s (ofL q) 0, dotS s (ofL q) 1, dotS s (ofL q) 2]

theorem ofL_take {l : List Int} {j : Nat} (hj : j < 3) : ofL (l.take 3) j = ofL l j := by
  unfold ofL
  rw [List.getD_eq_getElem?_getD, List.getD_eq_getElem?_getD, List.getElem?_take, if_pos hj]

theorem tone3_eq (s : T_edit_Step) (l : List Int) (k : Nat) : tone3 s l k = tone1 s ((l.drop (3 * k)).take 3) := by
  unfold tone3 tone1 triS
  rw [dotS_cg (q := ofL ((l.drop (3 * k)).take 3)) (fun j hj => (ofL_take hj).symm) (by omega : 0 < 3), dotS_cg (q := ofL ((l.drop (3 * k)).take 3)) (fun j hj => (ofL_take hj).symm) (by omega : 1 < 3), dotS_cg (q := ofL ((l.drop (3 * k)).take 3)) (fun j hj => (ofL_take hj).symm) (by omega : 2 < 3)]

theorem tone_img {s : T_edit_Step} {w h : Nat} {px : Nat → Nat → List Int} (p : px3 w h px) : toneP s (imgL w h px) (w * h) = imgL w h (fun x y => tone1 s (px x y)) := by
  unfold toneP
  show _ = pre3 w _ (w * h)
  unfold pre3
  rw [List.flatMap_def, List.flatMap_def]
  congr 1
  refine List.map_congr_left fun k hk => ?_
  have hk := List.mem_range.1 hk
  rw [tone3_eq]
  unfold imgL pre3
  rw [flat3 (f := fun k => px (k % w) (k / w)) (w * h) k (fun i hi => p.k hi) hk]

theorem px3_tone {s : T_edit_Step} {w h : Nat} {px : Nat → Nat → List Int} : px3 w h (fun x y => tone1 s (px x y)) := fun _ _ _ _ => rfl

theorem px3_im {w h : Nat} {l : List Int} (m : Im w h l) : px3 w h (pxN w l) := fun _ _ hx hy => pxN_len m hx hy

theorem srcT {t w h x y : Nat} (ht : 1 ≤ t ∧ t ≤ 8) (hx : x < turnW t w h) (hy : y < turnH t w h) : ∃ a b : Nat, srcS t w h x y = ((a : Int), (b : Int)) ∧ a < w ∧ b < h := srcN ht hx hy

/-- A turn of an image that is told by its pixels. -/
theorem turn_px {t w h : Nat} {px : Nat → Nat → List Int} (ht : 1 ≤ t ∧ t ≤ 8) (p : px3 w h px) : imgL (turnW t w h) (turnH t w h) (turnPx t w h (imgL w h px)) = imgL (turnW t w h) (turnH t w h) (fun x y => px (srcS t w h x y).1.toNat (srcS t w h x y).2.toNat) :=
  img_congr fun x y hx hy => by
    obtain ⟨a, b, e, ha, hb⟩ := srcT ht hx hy
    unfold turnPx
    rw [e]
    simp only [Int.toNat_natCast]
    exact pxN_img p ha hb

theorem crop_px {w h a b c d : Nat} {px : Nat → Nat → List Int} (p : px3 w h px) (hc : a + c ≤ w) (hd : b + d ≤ h) : imgL c d (cropPx w (imgL w h px) a b) = imgL c d (fun x y => px (a + x) (b + y)) :=
  img_congr fun x y hx hy => by unfold cropPx; exact pxN_img p (by omega) (by omega)

def toneK (s : T_edit_Step) : Prop := ¬ (1 ≤ s.Kind ∧ s.Kind ≤ 3)
def moveK (s : T_edit_Step) : Prop := s.Kind = 1 ∨ s.Kind = 2

/-- A tone step and a turn or a crop change places. -/
theorem step_comm {s t : T_edit_Step} {w h : Nat} {l : List Int} (m : Im w h l) (ht : stepE t = 0) (hs : toneK s) (hm : moveK t) (hc : cropOk t w h) : stepI t (stepI s ⟨w, h, l⟩) = stepI s (stepI t ⟨w, h, l⟩) := by
  have e0 : l = imgL w h (pxN w l) := (img_self m).symm
  generalize hpx : pxN w l = px at e0
  have p : px3 w h px := hpx ▸ px3_im m
  subst e0
  rw [step4 hs, tone_img p]
  rcases hm with h1 | h2
  · have hn := nums1 ht h1
    have ht' : 1 ≤ t.A.toNat ∧ t.A.toNat ≤ 8 := by omega
    rw [step1 h1, step1 h1, step4 hs, turn_px ht' px3_tone, turn_px ht' p, turn_area, ← turn_area t.A.toNat w h, tone_img]
    intro x y hx hy
    obtain ⟨a, b, e, ha, hb⟩ := srcT ht' hx hy
    show (px (srcS t.A.toNat w h x y).1.toNat (srcS t.A.toNat w h x y).2.toNat).length = 3
    rw [e]; exact p _ _ (by simpa using ha) (by simpa using hb)
  · have hn := nums2 ht h2
    have hc := hc h2
    have ec : t.C = (t.C.toNat : Int) := by omega
    have ed : t.D = (t.D.toNat : Int) := by omega
    rw [step2 h2, step2 h2, crop_px px3_tone (by omega) (by omega), crop_px p (by omega) (by omega)]
    generalize t.C.toNat = c at *
    generalize t.D.toNat = d at *
    rw [ec, ed, step4 hs, tone_img]
    intro x y hx hy
    exact p _ _ (by omega) (by omega)

/-! ### sizes -/

theorem sizeGo_append : ∀ (a b : List T_edit_Step) (w h : Int), (sizeGo a w h).2.2 = 0 → sizeGo (a ++ b) w h = sizeGo b (sizeGo a w h).1 (sizeGo a w h).2.1
  | [], b, w, h, _ => rfl
  | s :: r, b, w, h, hz => by
    simp only [List.cons_append, sizeGo] at hz ⊢
    split
    · rename_i h1; rw [if_pos h1] at hz
      split
      · rename_i h5; rw [if_pos h5] at hz; exact sizeGo_append r b _ _ hz
      · rename_i h5; rw [if_neg h5] at hz; exact sizeGo_append r b _ _ hz
    · rename_i h1; rw [if_neg h1] at hz
      split
      · rename_i h2; rw [if_pos h2] at hz
        split
        · rename_i h3; rw [if_pos h3] at hz; exact sizeGo_append r b _ _ hz
        · rename_i h3; rw [if_neg h3] at hz; cases hz
      · rename_i h2; rw [if_neg h2] at hz
        split
        · rename_i h3; rw [if_pos h3] at hz; exact sizeGo_append r b _ _ hz
        · rename_i h3; rw [if_neg h3] at hz; exact sizeGo_append r b _ _ hz

theorem sizeGo_pre : ∀ (a b : List T_edit_Step) (w h : Int), (sizeGo (a ++ b) w h).2.2 = 0 → (sizeGo a w h).2.2 = 0
  | [], b, w, h, _ => rfl
  | s :: r, b, w, h, hz => by
    simp only [List.cons_append, sizeGo] at hz ⊢
    split
    · rename_i h1; rw [if_pos h1] at hz
      split
      · rename_i h5; rw [if_pos h5] at hz; exact sizeGo_pre r b _ _ hz
      · rename_i h5; rw [if_neg h5] at hz; exact sizeGo_pre r b _ _ hz
    · rename_i h1; rw [if_neg h1] at hz
      split
      · rename_i h2; rw [if_pos h2] at hz
        split
        · rename_i h3; rw [if_pos h3] at hz; exact sizeGo_pre r b _ _ hz
        · rename_i h3; rw [if_neg h3] at hz; cases hz
      · rename_i h2; rw [if_neg h2] at hz
        split
        · rename_i h3; rw [if_pos h3] at hz; exact sizeGo_pre r b _ _ hz
        · rename_i h3; rw [if_neg h3] at hz; exact sizeGo_pre r b _ _ hz

theorem sizeGo_tones : ∀ (l : List T_edit_Step) (w h : Int), (∀ s ∈ l, toneK s) → sizeGo l w h = (w, h, 0)
  | [], _, _, _ => rfl
  | s :: r, w, h, ht => by
    have h0 := ht s (by simp)
    unfold toneK at h0
    simp only [sizeGo]
    rw [if_neg (by omega), if_neg (by omega), if_neg (by omega)]
    exact sizeGo_tones r w h fun x hx => ht x (by simp [hx])

theorem sizeGo_shape : ∀ (l : List T_edit_Step) (w h : Int), sizeGo (l.filter fun s => decide (shapeK s)) w h = sizeGo l w h
  | [], _, _ => rfl
  | s :: r, w, h => by
    by_cases hs : shapeK s
    · rw [List.filter_cons_of_pos (by simpa using hs)]
      simp only [sizeGo]
      split
      · split <;> exact sizeGo_shape r _ _
      · split
        · split
          · exact sizeGo_shape r _ _
          · rfl
        · split <;> exact sizeGo_shape r _ _
    · rw [List.filter_cons_of_neg (by simpa using hs), sizeGo_shape r]
      unfold shapeK at hs
      simp only [sizeGo]
      rw [if_neg (by omega), if_neg (by omega), if_neg (by omega)]

/-- One step: the sizes, and the image. -/
theorem step_size {s : T_edit_Step} {r : List T_edit_Step} {w h : Nat} {l : List Int} (m : Im w h l) (hs : stepE s = 0) (hz : (sizeGo (s :: r) w h).2.2 = 0) :
    cropOk s w h ∧ ∃ w' h' : Nat, (stepI s ⟨w, h, l⟩) = ⟨w', h', (stepI s ⟨w, h, l⟩).Pixels⟩ ∧ Im w' h' (stepI s ⟨w, h, l⟩).Pixels ∧ sizeGo (s :: r) w h = sizeGo r w' h' := by
  simp only [sizeGo] at hz ⊢
  have hc : cropOk s w h := fun h2 => by
    rw [if_neg (by omega), if_pos h2] at hz
    split at hz
    · assumption
    · cases hz
  refine ⟨hc, ?_⟩
  obtain ⟨w2, h2, e1, e2, m2⟩ := stepI_im hs m hc
  refine ⟨w2, h2, by rw [← e1, ← e2], m2, ?_⟩
  rw [← e1, ← e2]
  by_cases k1 : s.Kind = 1
  · have hn := nums1 hs k1
    rw [if_pos k1, step1 k1]
    show _ = sizeGo _ ((turnW s.A.toNat w h : Nat) : Int) ((turnH s.A.toNat w h : Nat) : Int)
    unfold turnW turnH
    by_cases h5 : 5 ≤ s.A
    · rw [if_pos h5, if_pos (by omega), if_pos (by omega)]
    · rw [if_neg h5, if_neg (by omega), if_neg (by omega)]
  · rw [if_neg k1]
    by_cases k2 : s.Kind = 2
    · rw [if_pos k2, if_pos (hc k2), step2 k2]
    · rw [if_neg k2]
      by_cases k3 : s.Kind = 3
      · rw [if_pos k3, step3 k3]
      · have hkk := (stepE_ok hs).1
        rw [if_neg k3, step4 (by omega)]

abbrev runI (l : List T_edit_Step) (m : T_api_Image) : T_api_Image := l.foldl (fun m s => stepI s m) m

theorem tone_size {s : T_edit_Step} {w h : Nat} {l : List Int} (hs : toneK s) : stepI s ⟨w, h, l⟩ = ⟨w, h, (stepI s ⟨w, h, l⟩).Pixels⟩ := by rw [step4 hs]

/-- A tone step goes behind turns and crops. -/
theorem tone_last {s : T_edit_Step} (hs : toneK s) (hE : stepE s = 0) : ∀ (q : List T_edit_Step) {w h : Nat} {l : List Int}, Im w h l → okAll q → (∀ t ∈ q, moveK t) → (sizeGo q w h).2.2 = 0 → runI q (stepI s ⟨w, h, l⟩) = stepI s (runI q ⟨w, h, l⟩)
  | [], _, _, _, _, _, _, _ => rfl
  | t :: q, w, h, l, m, ho, hm, hz => by
    have hE1 := ho t (by simp)
    obtain ⟨hc, w', h', e, m', ez⟩ := step_size m hE1 hz
    show runI q (stepI t (stepI s ⟨w, h, l⟩)) = stepI s (runI q (stepI t ⟨w, h, l⟩))
    rw [step_comm m hE1 hs (hm t (by simp)) hc, e]
    exact tone_last hs hE q m' (fun x hx => ho x (by simp [hx])) (fun x hx => hm x (by simp [hx])) (by rw [← ez]; exact hz)

/-- No Scale behind a tone step. -/
def SA (l : List T_edit_Step) : Prop := ∀ i j (hj : j < l.length) (hi : i < j), toneK (l[i]'(by omega)) → (l[j]).Kind ≠ 3

theorem SA.tail {s : T_edit_Step} {r : List T_edit_Step} (h : SA (s :: r)) : SA r := fun i j hj hi ht => h (i + 1) (j + 1) (by simp; omega) (by omega) ht
theorem SA.head {s : T_edit_Step} {r : List T_edit_Step} (h : SA (s :: r)) (hs : toneK s) : ∀ t ∈ r, t.Kind ≠ 3 := fun t ht => by
  obtain ⟨j, hj, rfl⟩ := List.getElem_of_mem ht
  exact h 0 (j + 1) (by simp; omega) (by omega) hs

abbrev shapes (l : List T_edit_Step) : List T_edit_Step := l.filter fun s => decide (shapeK s)
abbrev tones (l : List T_edit_Step) : List T_edit_Step := l.filter fun s => !decide (shapeK s)

theorem parts_len : ∀ l : List T_edit_Step, (shapes l).length + (tones l).length = l.length
  | [] => rfl
  | s :: r => by
    have ih := parts_len r
    show (List.filter _ (s :: r)).length + (List.filter _ (s :: r)).length = _
    by_cases hs : shapeK s
    · rw [List.filter_cons_of_pos (by simpa using hs), List.filter_cons_of_neg (by simpa using hs)]
      simp only [List.length_cons]; unfold shapes tones at ih; omega
    · rw [List.filter_cons_of_neg (by simpa using hs), List.filter_cons_of_pos (by simpa using hs)]
      simp only [List.length_cons]; unfold shapes tones at ih; omega

theorem run_apart : ∀ (l : List T_edit_Step) {w h : Nat} {P : List Int}, Im w h P → okAll l → SA l → (sizeGo l w h).2.2 = 0 → runI (shapes l ++ tones l) ⟨w, h, P⟩ = runI l ⟨w, h, P⟩
  | [], _, _, _, _, _, _, _ => rfl
  | s :: r, w, h, P, m, ho, hsa, hz => by
    have hE := ho s (by simp)
    obtain ⟨hc, w', h', e, m', ez⟩ := step_size m hE hz
    have ho' : okAll r := fun x hx => ho x (by simp [hx])
    have ih := run_apart r m' ho' hsa.tail (by rw [← ez]; exact hz)
    rw [← e] at ih
    show _ = runI r (stepI s ⟨w, h, P⟩)
    rw [← ih]
    by_cases hs : shapeK s
    · show runI (List.filter _ (s :: r) ++ List.filter _ (s :: r)) _ = _
      rw [List.filter_cons_of_pos (by simpa using hs), List.filter_cons_of_neg (by simpa using hs)]
      rfl
    · show runI (List.filter _ (s :: r) ++ List.filter _ (s :: r)) _ = _
      rw [List.filter_cons_of_neg (by simpa using hs), List.filter_cons_of_pos (by simpa using hs)]
      have ht : toneK s := hs
      have h3 := hsa.head ht
      have e4 : (sizeGo r w h).2.2 = 0 := by
        have : sizeGo (s :: r) w h = sizeGo r w h := by
          unfold toneK at ht
          simp only [sizeGo]
          rw [if_neg (by omega), if_neg (by omega), if_neg (by omega)]
        rw [← this]; exact hz
      have hl := tone_last ht hE (shapes r) m (fun x hx => ho' x (List.mem_filter.1 hx).1) (fun x hx => by
        have hx1 := (List.mem_filter.1 hx).1
        have hx2 := (List.mem_filter.1 hx).2
        have hx3 := h3 x hx1
        simp only [decide_eq_true_eq] at hx2
        unfold shapeK at hx2
        unfold moveK; omega) (by rw [sizeGo_shape]; exact e4)
      unfold runI at hl ⊢
      rw [List.foldl_append, List.foldl_append, List.foldl_cons, hl]

/-! ### the functions -/

theorem apart_eq (l : List T_edit_Step) (hl : l.length ≤ 1000000) : edit_apart l = some (shapes l, tones l) := by
  unfold edit_apart
  have key := fix_list (F := fun next2 s => edit_apart_l2 l next2 s.1 s.2.1 s.2.2) l (fun (p : List T_edit_Step × List T_edit_Step) s => if shapeK s then (p.1 ++ [s], p.2) else (p.1, p.2 ++ [s])) (fun p => some p) (fun k p => p.1.length ≤ k ∧ p.2.length ≤ k)
    (fun next k p hk hI => by
      obtain ⟨h1, h2⟩ := hI
      refine ⟨?_, ?_⟩
      · show edit_apart_l2 l next (k : Int) p.1 p.2 = _
        unfold edit_apart_l2 edit_apart_j3
        rw [cnd_if, if_pos (by omega), gAt_nat hk, bnd_pure, Shape_eq, bnd_pure, cnd_if]
        by_cases hs : shapeK l[k]
        · rw [if_pos hs, if_pos hs, gApp_ok (by simp only [List.length_cons, List.length_nil]; omega), bnd_pure, gI_ok (by omega), bnd_pure]
        · rw [if_neg hs, if_neg hs, gApp_ok (by simp only [List.length_cons, List.length_nil]; omega), bnd_pure, gI_ok (by omega), bnd_pure]
      · by_cases hs : shapeK l[k]
        · rw [if_pos hs]; simp; omega
        · rw [if_neg hs]; simp; omega)
    (fun next p _ => by
      show edit_apart_l2 l next (l.length : Int) p.1 p.2 = _
      unfold edit_apart_l2
      rw [cnd_if, if_neg (by omega)]; rfl) ([], []) ⟨by simp, by simp⟩
  refine key.trans ?_
  congr 1
  have gen : ∀ (l a b : List T_edit_Step), l.foldl (fun (p : List T_edit_Step × List T_edit_Step) s => if shapeK s then (p.1 ++ [s], p.2) else (p.1, p.2 ++ [s])) (a, b) = (a ++ shapes l, b ++ tones l) := by
    intro l
    induction l with
    | nil => intro a b; simp
    | cons s r ih =>
      intro a b
      rw [List.foldl_cons]
      by_cases hs : shapeK s
      · rw [if_pos hs, ih]
        show _ = (a ++ List.filter _ (s :: r), b ++ List.filter _ (s :: r))
        rw [List.filter_cons_of_pos (by simpa using hs), List.filter_cons_of_neg (by simpa using hs)]
        simp
      · rw [if_neg hs, ih]
        show _ = (a ++ List.filter _ (s :: r), b ++ List.filter _ (s :: r))
        rw [List.filter_cons_of_neg (by simpa using hs), List.filter_cons_of_pos (by simpa using hs)]
        simp
  simpa using gen l [] []

theorem Apart_eq {l : List T_edit_Step} (h : stepsE l = 0) : edit_Apart l = some (shapes l, tones l, 0) := by
  unfold edit_Apart
  rw [Check_eq, bnd_pure, h, cnd_if, if_neg (by simp), apart_eq l (by have := (stepsE_ok h).1; omega), bnd_pure]

theorem Concat2 (a b : List T_edit_Step) (ha : a.length + b.length ≤ 1000000) : slices_Concat_edit_Step [a, b] = some (a ++ b) := by
  unfold slices_Concat_edit_Step
  refine (fix_goto (F := fun next3 s => slices_Concat_edit_Step_l3 [a, b] next3 s.1 s.2) ((a.length : Int), 1) fun next => ?_).trans ((fix_goto (F := fun next3 s => slices_Concat_edit_Step_l3 [a, b] next3 s.1 s.2) ((a.length : Int) + (b.length : Int), 2) fun next => ?_).trans (fix_done fun next => ?_))
  · show slices_Concat_edit_Step_l3 [a, b] next 0 0 = _
    unfold slices_Concat_edit_Step_l3
    rw [cnd_if, if_pos (by simp), show gAt [a, b] 0 = some a from rfl, bnd_pure, gI_ok (by omega), bnd_pure, cnd_if, if_neg (by omega), gI_ok (by omega), bnd_pure]
    simp
  · show slices_Concat_edit_Step_l3 [a, b] next (a.length : Int) 1 = _
    unfold slices_Concat_edit_Step_l3
    rw [cnd_if, if_pos (by simp), show gAt [a, b] 1 = some b from rfl, bnd_pure, gI_ok (by omega), bnd_pure, cnd_if, if_neg (by omega), gI_ok (by omega), bnd_pure]
    rfl
  · show slices_Concat_edit_Step_l3 [a, b] next ((a.length : Int) + (b.length : Int)) 2 = _
    unfold slices_Concat_edit_Step_l3
    rw [cnd_if, if_neg (by simp)]
    unfold slices_Concat_edit_Step_j1
    rw [gGrow_ok (by omega), bnd_pure]
    refine (fix_goto (F := fun next2 s => slices_Concat_edit_Step_l2 [a, b] next2 s.1 s.2) (1, a) fun next => ?_).trans ((fix_goto (F := fun next2 s => slices_Concat_edit_Step_l2 [a, b] next2 s.1 s.2) (2, a ++ b) fun next => ?_).trans (fix_done fun next => ?_))
    · show slices_Concat_edit_Step_l2 [a, b] next 0 [] = _
      unfold slices_Concat_edit_Step_l2
      rw [cnd_if, if_pos (by simp), show gAt [a, b] 0 = some a from rfl, bnd_pure, gApp_ok (by simp only [List.length_nil]; omega), bnd_pure, gI_ok (by omega), bnd_pure]
      rfl
    · show slices_Concat_edit_Step_l2 [a, b] next 1 a = _
      unfold slices_Concat_edit_Step_l2
      rw [cnd_if, if_pos (by simp), show gAt [a, b] 1 = some b from rfl, bnd_pure, gApp_ok (by omega), bnd_pure, gI_ok (by omega), bnd_pure]
      rfl
    · show slices_Concat_edit_Step_l2 [a, b] next 2 (a ++ b) = _
      unfold slices_Concat_edit_Step_l2
      rw [cnd_if, if_neg (by simp)]

theorem parted_ok {l : List T_edit_Step} (h : stepsE l = 0) : stepsE (shapes l ++ tones l) = 0 := by
  obtain ⟨hl, ho⟩ := stepsE_ok h
  have hlen : (shapes l ++ tones l).length = l.length := by
    rw [List.length_append]
    exact parts_len l
  unfold stepsE
  rw [hlen, if_neg (by omega)]
  refine fstE_all fun e he => ?_
  obtain ⟨s, hs, rfl⟩ := List.mem_map.1 he
  rcases List.mem_append.1 hs with hs | hs
  · exact ho s (List.mem_filter.1 hs).1
  · exact ho s (List.mem_filter.1 hs).1

theorem parted_size {l : List T_edit_Step} {w h : Int} (hz : (sizeGo l w h).2.2 = 0) : (sizeGo (shapes l ++ tones l) w h).2.2 = 0 := by
  rw [sizeGo_append _ _ _ _ (by rw [sizeGo_shape]; exact hz), sizeGo_tones]
  intro s hs
  have := (List.mem_filter.1 hs).2
  simp only [Bool.not_eq_true', decide_eq_false_iff_not] at this
  exact this

theorem editApartS (m : T_api_Image) (l : List T_edit_Step) {φ1 φ2 φ3 φ4 : Prop} (hm : φ1 ∧ φ2 ∧ (φ3 ∧ ∀ v ∈ m.Pixels, 0 ≤ v ∧ v ≤ 255)) (_ : φ4) : Keep_EditApart m l = some true := by
  have hb := hm.2.2.2
  unfold Keep_EditApart
  rw [awakeE, bnd_pure, Bool.not_true, cnd_false, Render_eq _ hb, bnd_pure, cnd_if]
  by_cases h0 : (renderS m l).2 = 0
  · rw [if_neg (fun h => h h0)]
    obtain ⟨w, h, e, im, h1, hl, ho, hz, hr⟩ := renderS_ok h0 hb
    refine fix_of (F := fun next2 s => Keep_EditApart_l2 m l (renderS m l) next2 s.1 s.2) (fun _ => some true)
      (fun s => 0 ≤ s.2 ∧ s.2 ≤ l.length ∧ (∀ i (hi : i < l.length), (i : Int) < s.2 → toneK l[i] → s.1 = true) ∧ ∀ i j (hj : j < l.length) (hi : i < j), (j : Int) < s.2 → toneK (l[i]'(by omega)) → (l[j]).Kind ≠ 3)
      (fun s => l.length - s.2.toNat) ?_ (false, 0) ⟨by simp, by simp, fun i hi h => by simp only at h; omega, fun i j hj hi h => by simp only at h; omega⟩
    rintro next ⟨b, k⟩ ⟨g0, g1, g2, g3⟩ ih
    simp only at g0 g1 g2 g3
    obtain ⟨k, rfl⟩ := Int.eq_ofNat_of_zero_le g0
    show Keep_EditApart_l2 m l (renderS m l) next b (k : Int) = _
    unfold Keep_EditApart_l2
    rw [cnd_if]
    by_cases hk : k < l.length
    · rw [if_pos (by omega), gAt_nat hk, bnd_pure, cnd_if]
      have go : ((l[k]).Kind = 3 → b = false) → Keep_EditApart_j4 b (k : Int) next l[k] = some true := by
        intro h3
        unfold Keep_EditApart_j4 Keep_EditApart_j3
        have inv : ∀ b', (b = true → b' = true) → (toneK l[k] → b' = true) → next (b', (k : Int) + 1) = some true := by
          intro b' hb1 hb2
          refine ih _ ⟨by simp only; omega, by simp only; omega, fun i hi hik ht => ?_, fun i j hj hi hjk ht => ?_⟩ (by simp only; omega)
          · simp only at hik
            rcases Nat.lt_or_ge i k with hlt | hge
            · exact hb1 (g2 i hi (by omega) ht)
            · have : i = k := by omega
              subst this; exact hb2 ht
          · simp only at hjk
            rcases Nat.lt_or_ge j k with hlt | hge
            · exact g3 i j hj hi (by omega) ht
            · have : j = k := by omega
              subst this
              intro h3'
              have := g2 i (by omega) (by omega) ht
              rw [h3 h3'] at this; cases this
        cases hbb : b with
        | true => rw [cnd_true, gI_ok (by omega), bnd_pure]; exact inv true (fun _ => rfl) fun _ => rfl
        | false =>
          rw [cnd_false, Shape_eq, bnd_pure, gI_ok (by omega), bnd_pure]
          refine inv _ (fun h => by rw [hbb] at h; cases h) fun ht => ?_
          rw [decide_eq_false (show ¬ shapeK l[k] from ht)]; rfl
      by_cases h3 : (l[k]).Kind = 3
      · rw [if_pos h3]
        cases hbb : b with
        | true => rfl
        | false => rw [cnd_false]; rw [hbb] at go; exact go fun _ => rfl
      · rw [if_neg h3]; exact go fun h => absurd h h3
    · have : k = l.length := by omega
      subst this
      rw [if_neg (by omega)]
      have hsa : SA l := fun i j hj hi ht => g3 i j hj hi (by omega) ht
      unfold Keep_EditApart_j1
      rw [Apart_eq h1, bnd_pure, cnd_if, if_neg (by simp), Concat2 _ _ (by
        have := parts_len l
        show (shapes l).length + (tones l).length ≤ _
        omega), bnd_pure, Render_eq _ hb, bnd_pure]
      have eW : m.W = w := by rw [e]
      have eH : m.H = h := by rw [e]
      have hR : renderS m (shapes l ++ tones l) = ((renderS m l).1, 0) := by
        rw [hr]
        unfold renderS
        rw [parted_ok h1, if_neg (fun h => h rfl), if_neg (by rw [e]; exact fun h => h (im_imgE im)), eW, eH, if_neg (fun h => h (parted_size hz))]
        congr 1
        have := run_apart l im ho hsa hz
        rw [← e] at this
        exact this
      rw [hR, cnd_if, if_pos rfl, same_self, bnd_pure]
  · rw [if_pos h0]

end Go.M
