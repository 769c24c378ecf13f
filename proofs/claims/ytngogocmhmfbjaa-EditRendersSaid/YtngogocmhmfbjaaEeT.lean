/- The law EditRenders in plain Lean. Conditions: none. -/
import Derived.Test.YtngogocmhmfbjaaEeL
namespace Go.M
open Go.Md Go.Pl

/-- What a step makes of an image. -/
def stepI (s : T_edit_Step) (m : T_api_Image) : T_api_Image :=
  if s.Kind = 1 then ⟨turnW s.A.toNat m.W.toNat m.H.toNat, turnH s.A.toNat m.W.toNat m.H.toNat, imgL (turnW s.A.toNat m.W.toNat m.H.toNat) (turnH s.A.toNat m.W.toNat m.H.toNat) (turnPx s.A.toNat m.W.toNat m.H.toNat m.Pixels)⟩
  else if s.Kind = 2 then ⟨s.C, s.D, imgL s.C.toNat s.D.toNat (cropPx m.W.toNat m.Pixels s.A.toNat s.B.toNat)⟩
  else if s.Kind = 3 then ⟨s.A, s.B, imgL s.A.toNat s.B.toNat (scalePx m.W.toNat m.H.toNat m.Pixels s.A.toNat s.B.toNat)⟩
  else ⟨m.W, m.H, toneP s m.Pixels (m.W.toNat * m.H.toNat)⟩

def cropOk (s : T_edit_Step) (w h : Nat) : Prop := s.Kind = 2 → s.A + s.C ≤ w ∧ s.B + s.D ≤ h

theorem step1 {s : T_edit_Step} {w h : Nat} {l : List Int} (hk : s.Kind = 1) : stepI s ⟨w, h, l⟩ = ⟨turnW s.A.toNat w h, turnH s.A.toNat w h, imgL (turnW s.A.toNat w h) (turnH s.A.toNat w h) (turnPx s.A.toNat w h l)⟩ := by
  unfold stepI; rw [if_pos hk]; simp only [Int.toNat_natCast]
theorem step2 {s : T_edit_Step} {w h : Nat} {l : List Int} (hk : s.Kind = 2) : stepI s ⟨w, h, l⟩ = ⟨s.C, s.D, imgL s.C.toNat s.D.toNat (cropPx w l s.A.toNat s.B.toNat)⟩ := by
  unfold stepI; rw [if_neg (by omega), if_pos hk]; simp only [Int.toNat_natCast]
theorem step3 {s : T_edit_Step} {w h : Nat} {l : List Int} (hk : s.Kind = 3) : stepI s ⟨w, h, l⟩ = ⟨s.A, s.B, imgL s.A.toNat s.B.toNat (scalePx w h l s.A.toNat s.B.toNat)⟩ := by
  unfold stepI; rw [if_neg (by omega), if_neg (by omega), if_pos hk]; simp only [Int.toNat_natCast]
theorem step4 {s : T_edit_Step} {w h : Nat} {l : List Int} (hk : ¬ (1 ≤ s.Kind ∧ s.Kind ≤ 3)) : stepI s ⟨w, h, l⟩ = ⟨w, h, toneP s l (w * h)⟩ := by
  unfold stepI; rw [if_neg (by omega), if_neg (by omega), if_neg (by omega)]; simp only [Int.toNat_natCast]

theorem nums1 {s : T_edit_Step} (hs : stepE s = 0) (hk : s.Kind = 1) : 1 ≤ s.A ∧ s.A ≤ 8 := by
  have := (stepE_ok hs).2.1; unfold badS at this; simp [hk] at this; omega
theorem nums2 {s : T_edit_Step} (hs : stepE s = 0) (hk : s.Kind = 2) : 0 ≤ s.A ∧ 0 ≤ s.B ∧ 1 ≤ s.C ∧ 1 ≤ s.D := by
  have := (stepE_ok hs).2.1; unfold badS at this; simp [hk] at this; omega
theorem nums3 {s : T_edit_Step} (hs : stepE s = 0) (hk : s.Kind = 3) : 1 ≤ s.A ∧ s.A ≤ 64 ∧ 1 ≤ s.B ∧ s.B ≤ 64 := by
  have := (stepE_ok hs).2.1; unfold badS at this; simp [hk] at this; omega

theorem nat_of {a : Int} (h : 0 ≤ a) : ((a.toNat : Nat) : Int) = a := Int.toNat_of_nonneg h

theorem stepI_im {s : T_edit_Step} (hs : stepE s = 0) {w h : Nat} {l : List Int} (m : Im w h l) (hc : cropOk s w h) : ∃ w' h' : Nat, (stepI s ⟨w, h, l⟩).W = w' ∧ (stepI s ⟨w, h, l⟩).H = h' ∧ Im w' h' (stepI s ⟨w, h, l⟩).Pixels := by
  by_cases h1 : s.Kind = 1
  · have hn := nums1 hs h1
    rw [step1 h1]
    exact ⟨_, _, rfl, rfl, turn_im m (by omega)⟩
  by_cases h2 : s.Kind = 2
  · have hn := nums2 hs h2
    have hc := hc h2
    rw [step2 h2]
    exact ⟨s.C.toNat, s.D.toNat, (nat_of (a := s.C) (by omega)).symm, (nat_of (a := s.D) (by omega)).symm, crop_im m (by omega) (by omega)⟩
  by_cases h3 : s.Kind = 3
  · have hn := nums3 hs h3
    rw [step3 h3]
    exact ⟨s.A.toNat, s.B.toNat, (nat_of (a := s.A) (by omega)).symm, (nat_of (a := s.B) (by omega)).symm, scale_im (by omega) (by omega)⟩
  · rw [step4 (by omega)]
    exact ⟨w, h, rfl, rfl, tone_im m⟩

theorem ren_loop {ρ : Type} {F : (Int × Int × Int × List Int → Option ρ) → Int × Int × Int × List Int → Option ρ} (l : List T_edit_Step) (ho : okAll l) (J : T_api_Image → Option ρ)
    (step : ∀ next (k w h : Nat) (P : List Int) (hk : k < l.length), Im w h P → stepE l[k] = 0 → cropOk l[k] w h → F next ((k : Int), (w : Int), (h : Int), P) = next ((k : Int) + 1, (stepI l[k] ⟨w, h, P⟩).W, (stepI l[k] ⟨w, h, P⟩).H, (stepI l[k] ⟨w, h, P⟩).Pixels))
    (last : ∀ next W H P, F next ((l.length : Int), W, H, P) = J ⟨W, H, P⟩) {w h : Nat} {P : List Int} (m : Im w h P) (hz : (sizeGo l w h).2.2 = 0) : ∃ w' h' P', Im w' h' P' ∧ l.foldl (fun m s => stepI s m) ⟨w, h, P⟩ = ⟨w', h', P'⟩ ∧ fix F (0, (w : Int), (h : Int), P) = J ⟨w', h', P'⟩ := by
  obtain ⟨r, h1, h2⟩ : ∃ r : T_api_Image, (∃ w' h' : Nat, r = ⟨w', h', r.Pixels⟩ ∧ Im w' h' r.Pixels ∧ l.foldl (fun m s => stepI s m) ⟨w, h, P⟩ = r) ∧ fix F (0, (w : Int), (h : Int), P) = J r := by
    have key : ∀ n k (w1 h1 : Nat) (P1 : List Int), l.length - k = n → k ≤ l.length → Im w1 h1 P1 → (sizeGo (l.drop k) w1 h1).2.2 = 0 → ∃ r : T_api_Image, (∃ w' h' : Nat, r = ⟨w', h', r.Pixels⟩ ∧ Im w' h' r.Pixels ∧ (l.drop k).foldl (fun m s => stepI s m) ⟨w1, h1, P1⟩ = r) ∧ fix F ((k : Int), (w1 : Int), (h1 : Int), P1) = J r := by
      intro n
      induction n with
      | zero =>
        intro k w1 h1 P1 hn hk m1 hz1
        have : k = l.length := by omega
        subst this
        rw [List.drop_of_length_le (Nat.le_refl _)]
        exact ⟨⟨w1, h1, P1⟩, ⟨w1, h1, rfl, m1, rfl⟩, fix_done fun next => last next _ _ _⟩
      | succ n ih =>
        intro k w1 h1 P1 hn hk m1 hz1
        have hlt : k < l.length := by omega
        have hs := ho.at hlt
        rw [List.drop_eq_getElem_cons hlt] at hz1 ⊢
        simp only [sizeGo] at hz1
        have hc : cropOk l[k] w1 h1 := fun h2 => by
          rw [if_neg (by omega), if_pos h2] at hz1
          split at hz1
          · assumption
          · cases hz1
        obtain ⟨w2, h2, e1, e2, m2⟩ := stepI_im hs m1 hc
        have hz2 : (sizeGo (l.drop (k + 1)) w2 h2).2.2 = 0 := by
          rw [← e1, ← e2]
          by_cases k1 : l[k].Kind = 1
          · have hn := nums1 hs k1
            rw [if_pos k1] at hz1
            rw [step1 k1]
            show (sizeGo _ ((turnW l[k].A.toNat w1 h1 : Nat) : Int) ((turnH l[k].A.toNat w1 h1 : Nat) : Int)).2.2 = 0
            unfold turnW turnH
            by_cases h5 : 5 ≤ l[k].A
            · rw [if_pos h5] at hz1; rw [if_pos (by omega), if_pos (by omega)]; exact hz1
            · rw [if_neg h5] at hz1; rw [if_neg (by omega), if_neg (by omega)]; exact hz1
          · rw [if_neg k1] at hz1
            by_cases k2 : l[k].Kind = 2
            · rw [if_pos k2, if_pos (hc k2)] at hz1
              rw [step2 k2]; exact hz1
            · rw [if_neg k2] at hz1
              by_cases k3 : l[k].Kind = 3
              · rw [if_pos k3] at hz1
                rw [step3 k3]; exact hz1
              · rw [if_neg k3] at hz1
                have hkk := (stepE_ok hs).1
                rw [step4 (by omega)]; exact hz1
        obtain ⟨r, hr1, hr2⟩ := ih (k + 1) w2 h2 _ (by omega) (by omega) m2 hz2
        refine ⟨r, ?_, ?_⟩
        · rw [List.foldl_cons]
          have : stepI l[k] ⟨w1, h1, P1⟩ = ⟨(w2 : Int), (h2 : Int), (stepI l[k] ⟨w1, h1, P1⟩).Pixels⟩ := by rw [← e1, ← e2]
          rw [this]; exact hr1
        · refine (fix_goto _ fun next => step next k w1 h1 P1 hlt m1 hs hc).trans ?_
          rw [e1, e2]
          exact hr2
    exact key _ 0 w h P rfl (by omega) m hz
  obtain ⟨w', h', e, m', hf⟩ := h1
  exact ⟨w', h', r.Pixels, m', by rw [hf]; exact e, by rw [h2]; exact congrArg J e⟩

/-- The image that all steps make. -/
theorem Render_loop {l : List T_edit_Step} (ho : okAll l) (hl : l.length ≤ 1000000) {w h : Nat} {P : List Int} (m : Im w h P) (hz : (sizeGo l w h).2.2 = 0) : ∃ w' h' P', Im w' h' P' ∧ l.foldl (fun m s => stepI s m) ⟨w, h, P⟩ = ⟨w', h', P'⟩ ∧ fix (fun next2 s => edit_Render_l2 l next2 s.1 s.2.1 s.2.2.1 s.2.2.2) (0, (w : Int), (h : Int), P) = some (⟨w', h', P'⟩, 0) := by
  refine ren_loop (F := fun next2 s => edit_Render_l2 l next2 s.1 s.2.1 s.2.2.1 s.2.2.2) l ho (fun r => some (r, 0)) (fun next k w h P hk m hs hc => ?_) (fun next W H P => ?_) m hz
  · show edit_Render_l2 l next (k : Int) (w : Int) (h : Int) P = _
    unfold edit_Render_l2 edit_Render_j3
    rw [cnd_if, if_pos (by omega), gAt_nat hk, bnd_pure, gI_ok (by omega)]
    simp only [bnd_pure, cnd_if]
    by_cases h1 : l[k].Kind = 1
    · have hn := nums1 hs h1
      have e := pix_Turn_eq m (t := l[k].A.toNat) (by omega)
      rw [nat_of (by omega)] at e
      rw [if_pos h1, e, bnd_pure, step1 h1]
    · rw [if_neg h1]
      by_cases h2 : l[k].Kind = 2
      · have hn := nums2 hs h2
        have hc := hc h2
        have e := pix_Crop_eq m (a := l[k].A.toNat) (b := l[k].B.toNat) (c := l[k].C.toNat) (d := l[k].D.toNat) (by omega) (by omega)
        rw [nat_of (by omega), nat_of (by omega), nat_of (by omega), nat_of (by omega)] at e
        rw [if_pos h2, e, bnd_pure, step2 h2]
      · rw [if_neg h2]
        by_cases h3 : l[k].Kind = 3
        · have hn := nums3 hs h3
          have e := pix_Scale_eq m (W := l[k].A.toNat) (H := l[k].B.toNat) (by omega) (by omega)
          rw [nat_of (by omega), nat_of (by omega)] at e
          rw [if_pos h3, e, bnd_pure, step3 h3]
        · have hkk := (stepE_ok hs).1
          rw [if_neg h3, tone_eq m hs (by omega), bnd_pure, step4 (by omega)]
  · show edit_Render_l2 l next (l.length : Int) W H P = _
    unfold edit_Render_l2
    rw [cnd_if, if_neg (by omega)]; rfl

theorem Rendered_loop {l : List T_edit_Step} (ho : okAll l) (hl : l.length ≤ 1000000) {w h : Nat} {P : List Int} (m : Im w h P) (hz : (sizeGo l w h).2.2 = 0) : ∃ w' h' P', Im w' h' P' ∧ l.foldl (fun m s => stepI s m) ⟨w, h, P⟩ = ⟨w', h', P'⟩ ∧ R_Rendered ⟨w, h, P⟩ l = some ⟨w', h', P'⟩ := by
  refine ren_loop (F := fun next2 s => R_Rendered_l2 l next2 s.1 s.2.1 s.2.2.1 s.2.2.2) l ho (fun r => some r) (fun next k w h P hk m hs hc => ?_) (fun next W H P => ?_) m hz
  · show R_Rendered_l2 l next (k : Int) (w : Int) (h : Int) P = _
    unfold R_Rendered_l2
    rw [cnd_if, if_pos (by omega), gAt_nat hk, bnd_pure, cnd_if, cnd_if, cnd_if]
    have j3 : ∀ a b c, R_Rendered_j3 (k : Int) next a b c = next ((k : Int) + 1, a, b, c) := fun a b c => by
      unfold R_Rendered_j3; rw [gI_ok (by omega), bnd_pure]
    by_cases h1 : l[k].Kind = 1
    · have hn := nums1 hs h1
      have e := R1_Turned_eq m (t := l[k].A.toNat) (by omega)
      rw [nat_of (by omega)] at e
      rw [if_pos h1, e, bnd_pure, j3, step1 h1]
    · rw [if_neg h1]
      by_cases h2 : l[k].Kind = 2
      · have hn := nums2 hs h2
        have hc := hc h2
        have e := R1_Cropped_eq m (a := l[k].A.toNat) (b := l[k].B.toNat) (c := l[k].C.toNat) (d := l[k].D.toNat) (by omega) (by omega)
        rw [nat_of (by omega), nat_of (by omega), nat_of (by omega), nat_of (by omega)] at e
        rw [if_pos h2, e, bnd_pure, j3, step2 h2]
      · rw [if_neg h2]
        by_cases h3 : l[k].Kind = 3
        · have hn := nums3 hs h3
          have e := R1_Scaled_eq m (W := l[k].A.toNat) (H := l[k].B.toNat) (by omega) (by omega)
          rw [nat_of (by omega), nat_of (by omega)] at e
          rw [if_pos h3, e, bnd_pure, j3, step3 h3]
        · have hkk := (stepE_ok hs).1
          have hA := m.area
          have hlen := m.len
          rw [if_neg h3, step4 (by omega)]
          unfold slices_Clone_byte
          rw [gApp_ok (by simp only [List.length_nil]; omega), List.nil_append, bnd_pure, bnd_pure]
          refine (refTone_eq (F := fun next4 s => R_Rendered_l4 (k : Int) (w : Int) (h : Int) next l[k] next4 s.1 s.2) m hs (fun q => R_Rendered_j3 (k : Int) next (w : Int) (h : Int) q)
            (G := fun x t next4 next6 s => R_Rendered_l6 x next4 t next6 s.1 s.2) (fun next4 x q => ?_) (fun x t next4 next6 q L => ?_)).trans (j3 _ _ _)
          · show R_Rendered_l4 _ _ _ next _ next4 x q = _
            unfold R_Rendered_l4; rfl
          · show R_Rendered_l6 x next4 t next6 q L = _
            unfold R_Rendered_l6 R_Rendered_j5; rfl
  · show R_Rendered_l2 l next (l.length : Int) W H P = _
    unfold R_Rendered_l2
    rw [cnd_if, if_neg (by omega)]; rfl

/-! ### the law -/

theorem Size_eq (l : List T_edit_Step) (w h : Int) : edit_Size l w h = some (if stepsE l = 0 then sizeS l w h else (0, 0, stepsE l)) := by
  unfold edit_Size
  rw [Check_eq, bnd_pure, cnd_if]
  by_cases h0 : stepsE l = 0
  · rw [if_neg (fun h => h h0), if_pos h0]
    obtain ⟨hl, ho⟩ := stepsE_ok h0
    rw [edit_size_eq ho (by omega), bnd_pure]
  · rw [if_pos h0, if_neg h0]

theorem equal_byte (l : List Int) (hl : l.length ≤ 1000000) : slices_Equal_byte l l = some true := by
  unfold slices_Equal_byte
  rw [cnd_if, if_neg (fun h => h rfl)]
  refine (up (F := fun next1 s => slices_Equal_byte_l1 l l next1 s) l.length (fun _ => some true) fun next k hk ih => ?_)
  show slices_Equal_byte_l1 l l next (k : Int) = _
  unfold slices_Equal_byte_l1
  rw [cnd_if]
  by_cases h : k < l.length
  · rw [if_pos (by omega), gAt_nat h, bnd_pure, bnd_pure, cnd_if, if_neg (fun h => h rfl), gI_ok (by omega), bnd_pure, ih h]
  · rw [if_neg (by omega)]

theorem same_image (m : T_api_Image) (hl : m.Pixels.length ≤ 1000000) : R1_SameImage m m = some true := by
  unfold R1_SameImage
  rw [cnd_if, if_pos rfl, cnd_if, if_pos rfl, equal_byte _ hl, bnd_pure]

theorem first2' (a b : Int) : Law_first [a, b] = some (if a ≠ 0 then a else b) := by
  unfold Law_first
  have e2 : fix (fun next1 s => Law_first_l1 [a, b] next1 s) 2 = some 0 := fix_done fun next => by
    unfold Law_first_l1; rfl
  have e1 : fix (fun next1 s => Law_first_l1 [a, b] next1 s) 1 = some b := by
    by_cases h : b = 0
    · subst h
      rw [← e2]
      exact fix_goto _ fun next => by unfold Law_first_l1; rfl
    · exact fix_done fun next => by
        show cnd true (bnd (some b) fun t9 => cnd (decide (t9 ≠ 0)) (some t9) _) _ = _
        rw [cnd_true, bnd_pure, decide_eq_true h, cnd_true]
  by_cases h : a = 0
  · subst h
    rw [if_neg (by simp), ← e1]
    exact fix_goto _ fun next => by unfold Law_first_l1; rfl
  · rw [if_pos h]
    exact fix_done fun next => by
      show cnd true (bnd (some a) fun t9 => cnd (decide (t9 ≠ 0)) (some t9) _) _ = _
      rw [cnd_true, bnd_pure, decide_eq_true h, cnd_true]

theorem editRendersS (m : T_api_Image) (l : List T_edit_Step) (x y : Int) {φ1 φ2 φ3 φ4 φ5 φ6 : Prop} (hm : φ1 ∧ φ2 ∧ (φ3 ∧ ∀ v ∈ m.Pixels, 0 ≤ v ∧ v ≤ 255)) (_ : φ4) (_ : φ5) (_ : φ6) : Law_EditRenders m l x y = some true := by
  have hb := hm.2.2.2
  have zero : ∀ e : Int, Law_EditRenders_j3 (⟨0, 0, []⟩, e) e 0 0 [] = some true := fun e => by
    unfold Law_EditRenders_j3
    rw [cnd_if, if_pos rfl, same_image ⟨0, 0, []⟩ (by simp), bnd_pure]
  have main : ∀ r : Int × Int × Int, Law_EditRenders_j1 m l r r.2.2 r.1 r.2.1 = some true := by
    intro r
    unfold Law_EditRenders_j1
    rw [cnd_if, if_neg (fun h => h rfl), cnd_if, if_neg (fun h => h rfl), cnd_if, if_neg (fun h => h rfl), StepsFault_eq, R1_ImageError_eq]
    unfold edit_Render
    rw [Check_eq, bnd_pure, cnd_if, pix_Check_eq]
    by_cases h0 : stepsE l = 0
    · obtain ⟨hl, ho⟩ := stepsE_ok h0
      rw [if_neg (fun h => h h0), bnd_pure, cnd_if, h0]
      by_cases h1 : imgE m = 0
      · obtain ⟨w, h, e, im⟩ := imgE_im h1 hb
        have hw := im.w1
        have hw2 := im.w2
        have hh := im.h1
        have hh2 := im.h2
        rw [if_neg (fun h => h h1), h1]
        rw [e]
        simp only
        rw [edit_size_eq ho (by omega), bnd_pure, cnd_if]
        have hS : sizeS l (w : Int) (h : Int) = sizeGo l w h := by unfold sizeS; rw [if_pos (by omega)]
        rw [hS]
        by_cases h2 : (sizeGo l (w : Int) (h : Int)).2.2 = 0
        · rw [if_neg (fun h => h h2)]
          obtain ⟨w1, h1', P1, m1, f1, e1⟩ := Render_loop ho (by omega) im h2
          obtain ⟨w2, h2', P2, m2, f2, e2⟩ := Rendered_loop ho (by omega) im h2
          have eT := pix_Turn_eq im (t := 1) (by omega)
          have eW : turnW 1 w h = w := rfl
          have eH : turnH 1 w h = h := rfl
          rw [eW, eH, turn_one im] at eT
          rw [show ((1 : Nat) : Int) = 1 from rfl] at eT
          rw [eT, bnd_pure]
          simp only
          rw [e1, bnd_pure, bnd_pure, bnd_pure, first2', bnd_pure, cnd_if, if_pos (by simp), R_SizeOf_eq ho (by omega), bnd_pure, hS, h2]
          unfold Law_EditRenders_j2 Law_EditRenders_j3
          rw [cnd_if, if_pos rfl, e2, bnd_pure, cnd_if, if_pos rfl]
          rw [f1] at f2
          cases f2
          have hlen := m1.len
          have harea := m1.area
          rw [same_image _ (by simp only; omega), bnd_pure]
        · rw [if_pos h2, bnd_pure, bnd_pure, bnd_pure, first2', bnd_pure, cnd_if, if_pos (by simp), R_SizeOf_eq ho (by omega), bnd_pure, hS]
          unfold Law_EditRenders_j2
          rw [cnd_if, if_neg h2]
          exact zero _
      · rw [if_pos h1, bnd_pure, bnd_pure, bnd_pure, first2', bnd_pure, if_neg (fun h => h rfl), cnd_if, if_neg h1]
        unfold Law_EditRenders_j2
        rw [cnd_if, if_neg h1]
        exact zero _
    · rw [if_pos h0, bnd_pure, bnd_pure, bnd_pure, first2', bnd_pure, if_pos h0, cnd_if, if_neg h0]
      unfold Law_EditRenders_j2
      rw [cnd_if, if_neg h0]
      exact zero _
  unfold Law_EditRenders
  rw [Size_eq, bnd_pure, StepsFault_eq, bnd_pure, cnd_if]
  by_cases h0 : stepsE l = 0
  · rw [if_pos h0, if_pos h0, R_SizeOf_eq (stepsE_ok h0).2 (by have := (stepsE_ok h0).1; omega), bnd_pure]
    exact main _
  · rw [if_neg h0, if_neg h0]
    exact main (0, 0, stepsE l)

end Go.M
