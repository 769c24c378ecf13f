/- The law EditRenders in plain Lean. Conditions: none. -/
import Derived.Test.YtfplifpbobfemaaDoorTtL
namespace Go.M
open Go.Md Go.Pl

/-- What a step makes of an image. -/
def stepI (s : T_edit_Step) (m : T_api_Image) : T_api_Image :=
  if s.Kind = 1 then ⟨turnW s.A.toNat m.W.toNat m.H.toNat, turnH s.A.toNat m.W.toNat m.H.toNat, imgL (turnW s.A.toNat m.W.toNat m.H.toNat) (turnH s.A.toNat m.W.toNat m.H.toNat) (turnPx s.A.toNat m.W.toNat m.H.toNat m.Pixels)⟩
  else if s.Kind = 2 then ⟨s.C, s.D, imgL s.C.toNat s.D.toNat (cropPx m.W.toNat m.Pixels s.A.toNat s.B.toNat)⟩
  else if s.Kind = 3 then ⟨s.A, s.B, imgL s.A.toNat s.B.toNat (scalePx m.W.toNat m.H.toNat m.Pixels s.A.toNat s.B.toNat)⟩
  else ⟨m.W, m.H, toneP s m.Pixels (m.W.toNat * m.H.toNat)⟩

def cropOk (s : T_edit_Step) (w h : Nat) : Prop := s.Kind = 2 → s.A + s.C ≤ w ∧ s.B + s.D ≤ h

theorem step1 {s : T_edit_Step} {w h : Nat} {l : List Int} (hk : s.Kind = 1) : stepI s ⟨w, h, l⟩ = ⟨turnW s.A.toNat w h, turnH s.A.toNat w h, imgL (turnW s.A.toNat w h) (turnH s.A.toNat w h) (turnPx s.A.toNat w h l)⟩ := by
  unfold stepI; rw [if_pos hk]; simp only [Int.toNat_natCast]
theorem step2 {s : T_edit_Step} {w h : Nat} {l : List Int} (hk : s.Kind = 2) : stepI s ⟨w, h, l⟩ = ⟨s.C, s.D, imgL s.C.toNat s.D.toNat (cropPx w l s.A.toNat s.B.toNat)⟩ := by
  unfold stepI; rw [if_neg (by omega), if_pos hk]; simp only [Int.toNat_natCast]
theorem step3 {s : T_edit_Step} {w h : Nat} {l : List Int} (hk : s.Kind = 3) : stepI s ⟨w, h, l⟩ = ⟨s.A, s.B, imgL s.A.toNat s.B.toNat (scalePx w h l s.A.toNat s.B.toNat)⟩ := by
  unfold stepI; rw [if_neg (by omega), if_neg (by omega), if_pos hk]; simp only [Int.toNat_natCast]
theorem step4 {s : T_edit_Step} {w h : Nat} {l : List Int} (hk : ¬ (1 ≤ s.Kind ∧ s.Kind ≤ 3)) : stepI s ⟨w, h, l⟩ = ⟨w, h, toneP s l (w * h)⟩ := by
  unfold stepI; rw [if_neg (by omega), if_neg (by omega), if_neg (by omega)]; simp only [Int.toNat_natCast]

theorem nums1 {s : T_edit_Step} (hs : stepE s = 0) (hk : s.Kind = 1) : 1 ≤ s.A ∧ s.A ≤ 8 := by
  have := (stepE_ok hs).2.1; unfold badS at this; simp [hk] at this; omega
theorem nums2 {s : T_edit_Step} (hs : stepE s = 0) (hk : s.Kind = 2) : 0 ≤ s.A ∧ 0 ≤ s.B ∧ 1 ≤ s.C ∧ 1 ≤ s.D := by
  have := (stepE_ok hs).2.1; unfold badS at this; simp [hk] at this; omega
theorem nums3 {s : T_edit_Step} (hs : stepE s = 0) (hk : s.Kind = 3) : 1 ≤ s.A ∧ s.A ≤ 64 ∧ 1 ≤ s.B ∧ s.B ≤ 64 := by
  have := (stepE_ok hs).2.1; unfold badS at this; simp [hk] at this; omega

theorem nat_of {a : Int} (h : 0 ≤ a) : ((a.toNat : Nat) : Int) = a := Int.toNat_of_nonneg h

theorem stepI_im {s : T_edit_Step} (hs : stepE s = 0) {w h : Nat} {l : List Int} (m : Im w h l) (hc : cropOk s w h) : ∃ w' h' : Nat, (stepI s ⟨w, h, l⟩).W = w' ∧ (stepI s ⟨w, h, l⟩).H = h' ∧ Im w' h' (stepI s ⟨w, h, l⟩).Pixels := by
  by_cases h1 : s.Kind = 1
  · have hn := nums1 hs h1
    rw [step1 h1]
    exact ⟨_, _, rfl, rfl, turn_im m (by omega)⟩
  by_cases h2 : s.Kind = 2
  · have hn := nums2 hs h2
    have hc := hc h2
    rw [step2 h2]
    exact ⟨s.C.toNat, s.D.toNat, (nat_of (a := s.C) (by omega)).symm, (nat_of (a := s.D) (by omega)).symm, crop_im m (by omega) (by omega)⟩
  by_cases h3 : s.Kind = 3
  · have hn := nums3 hs h3
    rw [step3 h3]
    exact ⟨s.A.toNat, s.B.toNat, (nat_of (a := s.A) (by omega)).symm, (nat_of (a := s.B) (by omega)).symm, scale_im (by omega) (by omega)⟩
  · rw [step4 (by omega)]
    exact ⟨w, h, rfl, rfl, tone_im m⟩

theorem ren_loop {ρ : Type} {F : (Int × Int × Int × List Int → Option ρ) → Int × Int × Int × List Int → Option ρ} (l : List T_edit_Step) (ho : okAll l) (J : T_api_Image → Option ρ)
    (step : ∀ next (k w h : Nat) (P : List Int) (hk : k < l.length), Im w h P → stepE l[k] = 0 → cropOk l[k] w h → F next ((k : Int), (w : Int), (h : Int), P) = next ((k : Int) + 1, (stepI l[k] ⟨w, h, P⟩).W, (stepI l[k] ⟨w, h, P⟩).H, (stepI l[k] ⟨w, h, P⟩).Pixels))
    (last : ∀ next W H P, F next ((l.length : Int), W, H, P) = J ⟨W, H, P⟩) {w h : Nat} {P : List Int} (m : Im w h P) (hz : (sizeGo l w h).2.2 = 0) : ∃ w' h' P', Im w' h' P' ∧ l.foldl (fun m s => stepI s m) ⟨w, h, P⟩ = ⟨w', h', P'⟩ ∧ fix F (0, (w : Int), (h : Int), P) = J ⟨w', h', P'⟩ := by
  obtain ⟨r, h1, h2⟩ : ∃ r : T_api_Image, (∃ w' h' : Nat, r = ⟨w', h', r.Pixels⟩ ∧ Im w' h' r.Pixels ∧ l.foldl (fun m s => stepI s m) ⟨w, h, P⟩ = r) ∧ fix F (0, (w : Int), (h : Int), P) = J r := by
    have key : ∀ n k (w1 h1 : Nat) (P1 : List Int), l.length - k = n → k ≤ l.length → Im w1 h1 P1 → (sizeGo (l.drop k) w1 h1).2.2 = 0 → ∃ r : T_api_Image, (∃ w' h' : Nat, r = ⟨w', h', r.Pixels⟩ ∧ Im w' h' r.Pixels ∧ (l.drop k).foldl (fun m s => stepI s m) ⟨w1, h1, P1⟩ = r) ∧ fix F ((k : Int), (w1 : Int), (h1 : Int), P1) = J r := by
      intro n
      induction n with
      | zero =>
        intro k w1 h1 P1 hn hk m1 hz1
        have : k = l.length := by omega
        subst this
        rw [List.drop_of_length_le (Nat.le_refl _)]
        exact ⟨⟨w1, h1, P1⟩, ⟨w1, h1, rfl, m1, rfl⟩, fix_done fun next => last next _ _ _⟩
      | succ n ih =>
        intro k w1 h1 P1 hn hk m1 hz1
        have hlt : k < l.length := by omega
        have hs := ho.at hlt
        rw [List.drop_eq_getElem_cons hlt] at hz1 ⊢
        simp only [sizeGo] at hz1
        have hc : cropOk l[k] w1 h1 := fun h2 => by
          rw [if_neg (by omega), if_pos h2] at hz1
          split at hz1
          · assumption
          · cases hz1
        obtain ⟨w2, h2, e1, e2, m2⟩ := stepI_im hs m1 hc
        have hz2 : (sizeGo (l.drop (k + 1)) w2 h2).2.2 = 0 := by
          rw [← e1, ← e2]
          by_cases k1 : l[k].Kind = 1
          · have hn := nums1 hs k1
            rw [if_pos k1] at hz1
            rw [step1 k1]
            show (sizeGo _ ((turnW l[k].A.toNat w1 h1 : Nat) : Int) ((turnH l[k].A.toNat w1 h1 : Nat) : Int)).2.2 = 0
            unfold turnW turnH
            by_cases h5 : 5 ≤ l[k].A
            · rw [if_pos h5] at hz1; rw [if_pos (by omega), if_pos (by omega)]; exact hz1
            · rw [if_neg h5] at hz1; rw [if_neg (by omega), if_neg (by omega)]; exact hz1
          · rw [if_neg k1] at hz1
            by_cases k2 : l[k].Kind = 2
            · rw [if_pos k2, if_pos (hc k2)] at hz1
              rw [step2 k2]; exact hz1
            · rw [if_neg k2] at hz1
              by_cases k3 : l[k].Kind = 3
              · rw [if_pos k3] at hz1
                rw [step3 k3]; exact hz1
              · rw [if_neg k3] at hz1
                have hkk := (stepE_ok hs).1
                rw [step4 (by omega)]; exact hz1
        obtain ⟨r, hr1, hr2⟩ := ih (k + 1) w2 h2 _ (by omega) (by omega) m2 hz2
        refine ⟨r, ?_, ?_⟩
        · rw [List.foldl_cons]
          have : stepI l[k] ⟨w1, h1, P1⟩ = ⟨(w2 : Int), (h2 : Int), (stepI l[k] ⟨w1, h1, P1⟩).Pixels⟩ := by rw [← e1, ← e2]
          rw [this]; exact hr1
        · refine (fix_goto _ fun next => step next k w1 h1 P1 hlt m1 hs hc).trans ?_
          rw [e1, e2]
          exact hr2
    exact key _ 0 w h P rfl (by omega) m hz
  obtain ⟨w', h', e, m', hf⟩ := h1
  exact ⟨w', h', r.Pixels, m', by rw [hf]; exact e, by rw [h2]; exact congrArg J e⟩

/-- The image that all steps make. -/
theorem Render_loop {l : List T_edit_Step} (ho : okAll l) (hl : l.length ≤ 1000000) {w h : Nat} {P : List Int} (m : Im w h P) (hz : (sizeGo l w h).2.2 = 0) : ∃ w' h' P', Im w' h' P' ∧ l.foldl (fun m s => stepI s m) ⟨w, h, P⟩ = ⟨w', h', P'⟩ ∧ fix (fun next2 s => edit_Render_l2 l next2 s.1 s.2.1 s.2.2.1 s.2.2.2) (0, (w : Int), (h : Int), P) = some (⟨w', h', P'⟩, 0) := by
  refine ren_loop (F := fun next2 s => edit_Render_l2 l next2 s.1 s.2.1 s.2.2.1 s.2.2.2) l ho (fun r => some (r, 0)) (fun next k w h P hk m hs hc => ?_) (fun next W H P => ?_) m hz
  · show edit_Render_l2 l next (k : Int) (w : Int) (h : Int) P = _
    unfold edit_Render_l2 edit_Render_j3
    rw [cnd_if, if_pos (by omega), gAt_nat hk, bnd_pure, gI_ok (by omega)]
    simp only [bnd_pure, cnd_if]
    by_cases h1 : l[k].Kind = 1
    · have hn := nums1 hs h1
      have e := pix_Turn_eq m (t := l[k].A.toNat) (by omega)
      rw [nat_of (by omega)] at e
      rw [if_pos h1, e, bnd_pure, step1 h1]
    · rw [if_neg h1]
      by_cases h2 : l[k].Kind = 2
      · have hn := nums2 hs h2
        have hc := hc h2
        have e := pix_Crop_eq m (a := l[k].A.toNat) (b := l[k].B.toNat) (c := l[k].C.toNat) (d := l[k].D.toNat) (by omega) (by omega)
        rw [nat_of (by omega), nat_of (by omega), nat_of (by omega), nat_of (by omega)] at e
        rw [if_pos h2, e, bnd_pure, step2 h2]
      · rw [if_neg h2]
        by_cases h3 : l[k].Kind = 3
        · have hn := nums3 hs h3
          have e := pix_Scale_eq m (W := l[k].A.toNat) (H := l[k].B.toNat) (by omega) (by omega)
          rw [nat_of (by omega), nat_of (by omega)] at e
          rw [if_pos h3, e, bnd_pure, step3 h3]
        · have hkk := (stepE_ok hs).1
          rw [if_neg h3, tone_eq m hs (by omega), bnd_pure, step4 (by omega)]
  · show edit_Render_l2 l next (l.length : Int) W H P = _
    unfold edit_Render_l2
    rw [cnd_if, if_neg (by omega)]; rfl

/-! ### the law -/

end Go.M

/- Recipes in the keep-laws: the first question, what Render yields at every input, and the law EditTurns, in plain Lean. Conditions: none. -/
namespace Go.M
open Go.Md Go.Pl

theorem line_invert : edit_Step_line ⟨9, 0, 0, 0, 0⟩ = some [105, 110, 118, 101, 114, 116] := by
  have h1 : edit_word 9 = some ([105, 110, 118, 101, 114, 116], 0) := rfl
  have h2 : edit_Step_numbers ⟨9, 0, 0, 0, 0⟩ = some [0, 0, 0, 0] := rfl
  unfold edit_Step_line
  rw [h1, bnd_pure, h2, bnd_pure]
  have h3 : gCut [(0 : Int), 0, 0, 0] 0 0 = some [] := rfl
  rw [h3, bnd_pure]
  exact fix_done fun next => rfl

/-! ### Render -/

def zeroI : T_api_Image := ⟨0, 0, []⟩
def renderS (m : T_api_Image) (l : List T_edit_Step) : T_api_Image × Int :=
  if stepsE l ≠ 0 then (zeroI, stepsE l) else if imgE m ≠ 0 then (zeroI, imgE m) else if (sizeGo l m.W m.H).2.2 ≠ 0 then (zeroI, (sizeGo l m.W m.H).2.2) else (l.foldl (fun m s => stepI s m) m, 0)

theorem Render_eq {m : T_api_Image} (l : List T_edit_Step) (hb : ∀ v ∈ m.Pixels, 0 ≤ v ∧ v ≤ 255) : edit_Render m l = some (renderS m l) := by
  unfold edit_Render renderS
  rw [Check_eq, bnd_pure, cnd_if, pix_Check_eq]
  by_cases h0 : stepsE l = 0
  · obtain ⟨hl, ho⟩ := stepsE_ok h0
    rw [if_neg (fun h => h h0), if_neg (fun h => h h0), bnd_pure, cnd_if]
    by_cases h1 : imgE m = 0
    · obtain ⟨w, h, e, im⟩ := imgE_im h1 hb
      have hw := im.w1
      have hw2 := im.w2
      have hh := im.h1
      have hh2 := im.h2
      rw [if_neg (fun h => h h1), if_neg (fun h => h h1)]
      rw [e]
      simp only
      rw [edit_size_eq ho (by omega), bnd_pure, cnd_if]
      have hS : sizeS l (w : Int) (h : Int) = sizeGo l w h := by unfold sizeS; rw [if_pos (by omega)]
      rw [hS]
      by_cases h2 : (sizeGo l (w : Int) (h : Int)).2.2 = 0
      · rw [if_neg (fun h => h h2), if_neg (fun h => h h2)]
        obtain ⟨w1, h1', P1, m1, f1, e1⟩ := Render_loop ho (by omega) im h2
        have eT := pix_Turn_eq im (t := 1) (by omega)
        have eW : turnW 1 w h = w := rfl
        have eH : turnH 1 w h = h := rfl
        rw [eW, eH, turn_one im] at eT
        rw [show ((1 : Nat) : Int) = 1 from rfl] at eT
        rw [eT, bnd_pure]
        simp only
        rw [e1, f1]
      · rw [if_pos h2, if_pos h2]; rfl
    · rw [if_pos h1, if_pos h1]; rfl
  · rw [if_pos h0, if_pos h0]; rfl

/-- What a Render that yields an image says. -/
theorem renderS_ok {m : T_api_Image} {l : List T_edit_Step} (h : (renderS m l).2 = 0) (hb : ∀ v ∈ m.Pixels, 0 ≤ v ∧ v ≤ 255) :
    ∃ w h : Nat, m = ⟨w, h, m.Pixels⟩ ∧ Im w h m.Pixels ∧ stepsE l = 0 ∧ l.length ≤ 50 ∧ okAll l ∧ (sizeGo l w h).2.2 = 0 ∧ (renderS m l).1 = l.foldl (fun m s => stepI s m) m := by
  unfold renderS at h ⊢
  by_cases h0 : stepsE l = 0
  · obtain ⟨hl, ho⟩ := stepsE_ok h0
    rw [if_neg (fun h => h h0)] at h ⊢
    by_cases h1 : imgE m = 0
    · obtain ⟨w, hh, e, im⟩ := imgE_im h1 hb
      rw [if_neg (fun h => h h1)] at h ⊢
      have eW : m.W = w := by rw [e]
      have eH : m.H = hh := by rw [e]
      rw [eW, eH] at h ⊢
      by_cases h2 : (sizeGo l (w : Int) (hh : Int)).2.2 = 0
      · rw [if_neg (fun h => h h2)]
        exact ⟨w, hh, e, im, h0, hl, ho, h2, rfl⟩
      · rw [if_pos h2] at h; exact absurd h h2
    · rw [if_pos h1] at h; exact absurd h h1
  · rw [if_pos h0] at h; exact absurd h h0

/-! ### EditTurns -/

theorem stepE_turn (t : Int) : stepE ⟨1, t, 0, 0, 0⟩ = if 1 ≤ t ∧ t ≤ 8 then 0 else 2 := by
  unfold stepE badS formS usedS
  simp only
  rw [if_neg (by omega)]
  by_cases h : 1 ≤ t ∧ t ≤ 8
  · rw [if_pos h]; simp; omega
  · rw [if_neg h]; simp; omega

end Go.M

/- Images pixel by pixel, in plain Lean. Conditions: none. -/
namespace Go.M
open Go.Md Go.Pl

theorem flat3 {f : Nat → List Int} : ∀ (n k : Nat), (∀ i, i < n → (f i).length = 3) → k < n → (((List.range n).flatMap f).drop (3 * k)).take 3 = f k := by
  intro n
  induction n with
  | zero => intro k _ h; omega
  | succ n ih =>
    intro k hf hk
    rw [List.range_succ, List.flatMap_append, List.flatMap_singleton]
    have hl : ∀ m, m ≤ n → ((List.range m).flatMap f).length = 3 * m := by
      intro m
      induction m with
      | zero => intro _; rfl
      | succ m ihm => intro hm; rw [List.range_succ, List.flatMap_append, List.flatMap_singleton, List.length_append, ihm (by omega), hf m (by omega)]; omega
    rcases Nat.lt_or_ge k n with h | h
    · rw [List.drop_append_of_le_length (by rw [hl n (Nat.le_refl _)]; omega), List.take_append_of_le_length (by rw [List.length_drop, hl n (Nat.le_refl _)]; omega)]
      exact ih k (fun i hi => hf i (by omega)) h
    · have : k = n := by omega
      subst this
      rw [show 3 * k = ((List.range k).flatMap f).length from (hl k (Nat.le_refl _)).symm, List.drop_left, List.take_of_length_le (by rw [hf k (by omega)]; omega)]

def px3 (w h : Nat) (px : Nat → Nat → List Int) : Prop := ∀ x y, x < w → y < h → (px x y).length = 3

theorem px3.k {w h : Nat} {px : Nat → Nat → List Int} (p : px3 w h px) {k : Nat} (hk : k < w * h) : (px (k % w) (k / w)).length = 3 := by
  have hw : 0 < w := by
    rcases Nat.eq_zero_or_pos w with h0 | h0
    · subst h0; omega
    · exact h0
  exact p _ _ (Nat.mod_lt _ hw) (Nat.div_lt_of_lt_mul hk)

theorem pxN_img {w h : Nat} {px : Nat → Nat → List Int} (p : px3 w h px) {a b : Nat} (ha : a < w) (hb : b < h) : pxN w (imgL w h px) a b = px a b := by
  have h0 := idx_lt ha hb
  have := flat3 (f := fun k => px (k % w) (k / w)) (w * h) (b * w + a) (fun i hi => p.k hi) (by omega)
  unfold pxN imgL pre3
  rw [this]
  have h1 : (b * w + a) % w = a := by rw [Nat.mul_comm, Nat.mul_add_mod]; exact Nat.mod_eq_of_lt ha
  have h2 : (b * w + a) / w = b := by rw [Nat.mul_comm, Nat.mul_add_div (by omega), Nat.div_eq_of_lt ha, Nat.add_zero]
  rw [h1, h2]

theorem img_congr {w h : Nat} {px qx : Nat → Nat → List Int} (e : ∀ x y, x < w → y < h → px x y = qx x y) : imgL w h px = imgL w h qx := by
  unfold imgL pre3
  rw [List.flatMap_def, List.flatMap_def]
  congr 1
  refine List.map_congr_left fun k hk => ?_
  have hk := List.mem_range.1 hk
  have hw : 0 < w := by
    rcases Nat.eq_zero_or_pos w with h0 | h0
    · subst h0; omega
    · exact h0
  exact e _ _ (Nat.mod_lt _ hw) (Nat.div_lt_of_lt_mul hk)

theorem srcT {t w h x y : Nat} (ht : 1 ≤ t ∧ t ≤ 8) (hx : x < turnW t w h) (hy : y < turnH t w h) : ∃ a b : Nat, srcS t w h x y = ((a : Int), (b : Int)) ∧ a < w ∧ b < h := srcN ht hx hy

/-- A turn of an image that is told by its pixels. -/
theorem turn_px {t w h : Nat} {px : Nat → Nat → List Int} (ht : 1 ≤ t ∧ t ≤ 8) (p : px3 w h px) : imgL (turnW t w h) (turnH t w h) (turnPx t w h (imgL w h px)) = imgL (turnW t w h) (turnH t w h) (fun x y => px (srcS t w h x y).1.toNat (srcS t w h x y).2.toNat) :=
  img_congr fun x y hx hy => by
    obtain ⟨a, b, e, ha, hb⟩ := srcT ht hx hy
    unfold turnPx
    rw [e]
    simp only [Int.toNat_natCast]
    exact pxN_img p ha hb


end Go.M
