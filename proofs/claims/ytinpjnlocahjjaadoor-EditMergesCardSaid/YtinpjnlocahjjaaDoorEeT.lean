/- The law EditRenders in plain Lean. Conditions: none. -/
import Derived.Test.YtinpjnlocahjjaaDoorEeL
namespace Go.M
open Go.Md Go.Pl

/-- What a step makes of an image. -/
def stepI (s : T_edit_Step) (m : T_api_Image) : T_api_Image :=
  if s.Kind = 1 then ⟨turnW s.A.toNat m.W.toNat m.H.toNat, turnH s.A.toNat m.W.toNat m.H.toNat, imgL (turnW s.A.toNat m.W.toNat m.H.toNat) (turnH s.A.toNat m.W.toNat m.H.toNat) (turnPx s.A.toNat m.W.toNat m.H.toNat m.Pixels)⟩
  else if s.Kind = 2 then ⟨s.C, s.D, imgL s.C.toNat s.D.toNat (cropPx m.W.toNat m.Pixels s.A.toNat s.B.toNat)⟩
  else if s.Kind = 3 then ⟨s.A, s.B, imgL s.A.toNat s.B.toNat (scalePx m.W.toNat m.H.toNat m.Pixels s.A.toNat s.B.toNat)⟩
  else ⟨m.W, m.H, toneP s m.Pixels (m.W.toNat * m.H.toNat)⟩

def cropOk (s : T_edit_Step) (w h : Nat) : Prop := s.Kind = 2 → s.A + s.C ≤ w ∧ s.B + s.D ≤ h

theorem step1 {s : T_edit_Step} {w h : Nat} {l : List Int} (hk : s.Kind = 1) : stepI s ⟨w, h, l⟩ = ⟨turnW s.A.toNat w h, turnH s.A.toNat w h, imgL (turnW s.A.toNat w h) (turnH s.A.toNat w h) (turnPx s.A.toNat w h l)⟩ := by
  unfold stepI; rw [if_pos hk]; simp only [Int.toNat_natCast]
theorem step2 {s : T_edit_Step} {w h : Nat} {l : List Int} (hk : s.Kind = 2) : stepI s ⟨w, h, l⟩ = ⟨s.C, s.D, imgL s.C.toNat s.D.toNat (cropPx w l s.A.toNat s.B.toNat)⟩ := by
  unfold stepI; rw [if_neg (by omega), if_pos hk]; simp only [Int.toNat_natCast]
theorem step3 {s : T_edit_Step} {w h : Nat} {l : List Int} (hk : s.Kind = 3) : stepI s ⟨w, h, l⟩ = ⟨s.A, s.B, imgL s.A.toNat s.B.toNat (scalePx w h l s.A.toNat s.B.toNat)⟩ := by
  unfold stepI; rw [if_neg (by omega), if_neg (by omega), if_pos hk]; simp only [Int.toNat_natCast]
theorem step4 {s : T_edit_Step} {w h : Nat} {l : List Int} (hk : ¬ (1 ≤ s.Kind ∧ s.Kind ≤ 3)) : stepI s ⟨w, h, l⟩ = ⟨w, h, toneP s l (w * h)⟩ := by
  unfold stepI; rw [if_neg (by omega), if_neg (by omega), if_neg (by omega)]; simp only [Int.toNat_natCast]

theorem nums1 {s : T_edit_Step} (hs : stepE s = 0) (hk : s.Kind = 1) : 1 ≤ s.A ∧ s.A ≤ 8 := by
  have := (stepE_ok hs).2.1; unfold badS at this; simp [hk] at this; omega
theorem nums2 {s : T_edit_Step} (hs : stepE s = 0) (hk : s.Kind = 2) : 0 ≤ s.A ∧ 0 ≤ s.B ∧ 1 ≤ s.C ∧ 1 ≤ s.D := by
  have := (stepE_ok hs).2.1; unfold badS at this; simp [hk] at this; omega
theorem nums3 {s : T_edit_Step} (hs : stepE s = 0) (hk : s.Kind = 3) : 1 ≤ s.A ∧ s.A ≤ 64 ∧ 1 ≤ s.B ∧ s.B ≤ 64 := by
  have := (stepE_ok hs).2.1; unfold badS at this; simp [hk] at this; omega

theorem nat_of {a : Int} (h : 0 ≤ a) : ((a.toNat : Nat) : Int) = a := Int.toNat_of_nonneg h

theorem stepI_im {s : T_edit_Step} (hs : stepE s = 0) {w h : Nat} {l : List Int} (m : Im w h l) (hc : cropOk s w h) : ∃ w' h' : Nat, (stepI s ⟨w, h, l⟩).W = w' ∧ (stepI s ⟨w, h, l⟩).H = h' ∧ Im w' h' (stepI s ⟨w, h, l⟩).Pixels := by
  by_cases h1 : s.Kind = 1
  · have hn := nums1 hs h1
    rw [step1 h1]
    exact ⟨_, _, rfl, rfl, turn_im m (by omega)⟩
  by_cases h2 : s.Kind = 2
  · have hn := nums2 hs h2
    have hc := hc h2
    rw [step2 h2]
    exact ⟨s.C.toNat, s.D.toNat, (nat_of (a := s.C) (by omega)).symm, (nat_of (a := s.D) (by omega)).symm, crop_im m (by omega) (by omega)⟩
  by_cases h3 : s.Kind = 3
  · have hn := nums3 hs h3
    rw [step3 h3]
    exact ⟨s.A.toNat, s.B.toNat, (nat_of (a := s.A) (by omega)).symm, (nat_of (a := s.B) (by omega)).symm, scale_im (by omega) (by omega)⟩
  · rw [step4 (by omega)]
    exact ⟨w, h, rfl, rfl, tone_im m⟩

theorem ren_loop {ρ : Type} {F : (Int × Int × Int × List Int → Option ρ) → Int × Int × Int × List Int → Option ρ} (l : List T_edit_Step) (ho : okAll l) (J : T_api_Image → Option ρ)
    (step : ∀ next (k w h : Nat) (P : List Int) (hk : k < l.length), Im w h P → stepE l[k] = 0 → cropOk l[k] w h → F next ((k : Int), (w : Int), (h : Int), P) = next ((k : Int) + 1, (stepI l[k] ⟨w, h, P⟩).W, (stepI l[k] ⟨w, h, P⟩).H, (stepI l[k] ⟨w, h, P⟩).Pixels))
    (last : ∀ next W H P, F next ((l.length : Int), W, H, P) = J ⟨W, H, P⟩) {w h : Nat} {P : List Int} (m : Im w h P) (hz : (sizeGo l w h).2.2 = 0) : ∃ w' h' P', Im w' h' P' ∧ l.foldl (fun m s => stepI s m) ⟨w, h, P⟩ = ⟨w', h', P'⟩ ∧ fix F (0, (w : Int), (h : Int), P) = J ⟨w', h', P'⟩ := by
  obtain ⟨r, h1, h2⟩ : ∃ r : T_api_Image, (∃ w' h' : Nat, r = ⟨w', h', r.Pixels⟩ ∧ Im w' h' r.Pixels ∧ l.foldl (fun m s => stepI s m) ⟨w, h, P⟩ = r) ∧ fix F (0, (w : Int), (h : Int), P) = J r := by
    have key : ∀ n k (w1 h1 : Nat) (P1 : List Int), l.length - k = n → k ≤ l.length → Im w1 h1 P1 → (sizeGo (l.drop k) w1 h1).2.2 = 0 → ∃ r : T_api_Image, (∃ w' h' : Nat, r = ⟨w', h', r.Pixels⟩ ∧ Im w' h' r.Pixels ∧ (l.drop k).foldl (fun m s => stepI s m) ⟨w1, h1, P1⟩ = r) ∧ fix F ((k : Int), (w1 : Int), (h1 : Int), P1) = J r := by
      intro n
      induction n with
      | zero =>
        intro k w1 h1 P1 hn hk m1 hz1
        have : k = l.length := by omega
        subst this
        rw [List.drop_of_length_le (Nat.le_refl _)]
        exact ⟨⟨w1, h1, P1⟩, ⟨w1, h1, rfl, m1, rfl⟩, fix_done fun next => last next _ _ _⟩
      | succ n ih =>
        intro k w1 h1 P1 hn hk m1 hz1
        have hlt : k < l.length := by omega
        have hs := ho.at hlt
        rw [List.drop_eq_getElem_cons hlt] at hz1 ⊢
        simp only [sizeGo] at hz1
        have hc : cropOk l[k] w1 h1 := fun h2 => by
          rw [if_neg (by omega), if_pos h2] at hz1
          split at hz1
          · assumption
          · cases hz1
        obtain ⟨w2, h2, e1, e2, m2⟩ := stepI_im hs m1 hc
        have hz2 : (sizeGo (l.drop (k + 1)) w2 h2).2.2 = 0 := by
          rw [← e1, ← e2]
          by_cases k1 : l[k].Kind = 1
          · have hn := nums1 hs k1
            rw [if_pos k1] at hz1
            rw [step1 k1]
            show (sizeGo _ ((turnW l[k].A.toNat w1 h1 : Nat) : Int) ((turnH l[k].A.toNat w1 h1 : Nat) : Int)).2.2 = 0
            unfold turnW turnH
            by_cases h5 : 5 ≤ l[k].A
            · rw [if_pos h5] at hz1; rw [if_pos (by omega), if_pos (by omega)]; exact hz1
            · rw [if_neg h5] at hz1; rw [if_neg (by omega), if_neg (by omega)]; exact hz1
          · rw [if_neg k1] at hz1
            by_cases k2 : l[k].Kind = 2
            · rw [if_pos k2, if_pos (hc k2)] at hz1
              rw [step2 k2]; exact hz1
            · rw [if_neg k2] at hz1
              by_cases k3 : l[k].Kind = 3
              · rw [if_pos k3] at hz1
                rw [step3 k3]; exact hz1
              · rw [if_neg k3] at hz1
                have hkk := (stepE_ok hs).1
                rw [step4 (by omega)]; exact hz1
        obtain ⟨r, hr1, hr2⟩ := ih (k + 1) w2 h2 _ (by omega) (by omega) m2 hz2
        refine ⟨r, ?_, ?_⟩
        · rw [List.foldl_cons]
          have : stepI l[k] ⟨w1, h1, P1⟩ = ⟨(w2 : Int), (h2 : Int), (stepI l[k] ⟨w1, h1, P1⟩).Pixels⟩ := by rw [← e1, ← e2]
          rw [this]; exact hr1
        · refine (fix_goto _ fun next => step next k w1 h1 P1 hlt m1 hs hc).trans ?_
          rw [e1, e2]
          exact hr2
    exact key _ 0 w h P rfl (by omega) m hz
  obtain ⟨w', h', e, m', hf⟩ := h1
  exact ⟨w', h', r.Pixels, m', by rw [hf]; exact e, by rw [h2]; exact congrArg J e⟩

/-- The image that all steps make. -/
theorem Render_loop {l : List T_edit_Step} (ho : okAll l) (hl : l.length ≤ 1000000) {w h : Nat} {P : List Int} (m : Im w h P) (hz : (sizeGo l w h).2.2 = 0) : ∃ w' h' P', Im w' h' P' ∧ l.foldl (fun m s => stepI s m) ⟨w, h, P⟩ = ⟨w', h', P'⟩ ∧ fix (fun next2 s => edit_Render_l2 l next2 s.1 s.2.1 s.2.2.1 s.2.2.2) (0, (w : Int), (h : Int), P) = some (⟨w', h', P'⟩, 0) := by
  refine ren_loop (F := fun next2 s => edit_Render_l2 l next2 s.1 s.2.1 s.2.2.1 s.2.2.2) l ho (fun r => some (r, 0)) (fun next k w h P hk m hs hc => ?_) (fun next W H P => ?_) m hz
  · show edit_Render_l2 l next (k : Int) (w : Int) (h : Int) P = _
    unfold edit_Render_l2 edit_Render_j3
    rw [cnd_if, if_pos (by omega), gAt_nat hk, bnd_pure, gI_ok (by omega)]
    simp only [bnd_pure, cnd_if]
    by_cases h1 : l[k].Kind = 1
    · have hn := nums1 hs h1
      have e := pix_Turn_eq m (t := l[k].A.toNat) (by omega)
      rw [nat_of (by omega)] at e
      rw [if_pos h1, e, bnd_pure, step1 h1]
    · rw [if_neg h1]
      by_cases h2 : l[k].Kind = 2
      · have hn := nums2 hs h2
        have hc := hc h2
        have e := pix_Crop_eq m (a := l[k].A.toNat) (b := l[k].B.toNat) (c := l[k].C.toNat) (d := l[k].D.toNat) (by omega) (by omega)
        rw [nat_of (by omega), nat_of (by omega), nat_of (by omega), nat_of (by omega)] at e
        rw [if_pos h2, e, bnd_pure, step2 h2]
      · rw [if_neg h2]
        by_cases h3 : l[k].Kind = 3
        · have hn := nums3 hs h3
          have e := pix_Scale_eq m (W := l[k].A.toNat) (H := l[k].B.toNat) (by omega) (by omega)
          rw [nat_of (by omega), nat_of (by omega)] at e
          rw [if_pos h3, e, bnd_pure, step3 h3]
        · have hkk := (stepE_ok hs).1
          rw [if_neg h3, tone_eq m hs (by omega), bnd_pure, step4 (by omega)]
  · show edit_Render_l2 l next (l.length : Int) W H P = _
    unfold edit_Render_l2
    rw [cnd_if, if_neg (by omega)]; rfl

/-! ### the law -/

theorem Size_eq (l : List T_edit_Step) (w h : Int) : edit_Size l w h = some (if stepsE l = 0 then sizeS l w h else (0, 0, stepsE l)) := by
  unfold edit_Size
  rw [Check_eq, bnd_pure, cnd_if]
  by_cases h0 : stepsE l = 0
  · rw [if_neg (fun h => h h0), if_pos h0]
    obtain ⟨hl, ho⟩ := stepsE_ok h0
    rw [edit_size_eq ho (by omega), bnd_pure]
  · rw [if_pos h0, if_neg h0]

end Go.M
