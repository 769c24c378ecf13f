/- The law EditRenders in plain Lean. Conditions: none. -/
import Derived.Test.YtllnhnnpmmnomaaTsK
import Derived.Test.YtllnhnnpmmnomaaTsP
namespace Go.M
open Go.Md Go.Pl

/-- What a step makes of an image. -/
def stepI (s : T_edit_Step) (m : T_api_Image) : T_api_Image :=
  if s.Kind = 1 then ⟨turnW s.A.toNat m.W.toNat m.H.toNat, turnH s.A.toNat m.W.toNat m.H.toNat, imgL (turnW s.A.toNat m.W.toNat m.H.toNat) (turnH s.A.toNat m.W.toNat m.H.toNat) (turnPx s.A.toNat m.W.toNat m.H.toNat m.Pixels)⟩
  else if s.Kind = 2 then ⟨s.C, s.D, imgL s.C.toNat s.D.toNat (cropPx m.W.toNat m.Pixels s.A.toNat s.B.toNat)⟩
  else if s.Kind = 3 then ⟨s.A, s.B, imgL s.A.toNat s.B.toNat (scalePx m.W.toNat m.H.toNat m.Pixels s.A.toNat s.B.toNat)⟩
  else ⟨m.W, m.H, toneP s m.Pixels (m.W.toNat * m.H.toNat)⟩

def cropOk (s : T_edit_Step) (w h : Nat) : Prop := s.Kind = 2 → s.A + s.C ≤ w ∧ s.B + s.D ≤ h

theorem step1 {s : T_edit_Step} {w h : Nat} {l : List Int} (hk : s.Kind = 1) : stepI s ⟨w, h, l⟩ = ⟨turnW s.A.toNat w h, turnH s.A.toNat w h, imgL (turnW s.A.toNat w h) (turnH s.A.toNat w h) (turnPx s.A.toNat w h l)⟩ := by
  unfold stepI; rw [if_pos hk]; simp only [Int.toNat_natCast]
theorem step2 {s : T_edit_Step} {w h : Nat} {l : List Int} (hk : s.Kind = 2) : stepI s ⟨w, h, l⟩ = ⟨s.C, s.D, imgL s.C.toNat s.D.toNat (cropPx w l s.A.toNat s.B.toNat)⟩ := by
  unfold stepI; rw [if_neg (by omega), if_pos hk]; simp only [Int.toNat_natCast]
theorem step3 {s : T_edit_Step} {w h : Nat} {l : List Int} (hk : s.Kind = 3) : stepI s ⟨w, h, l⟩ = ⟨s.A, s.B, imgL s.A.toNat s.B.toNat (scalePx w h l s.A.toNat s.B.toNat)⟩ := by
  unfold stepI; rw [if_neg (by omega), if_neg (by omega), if_pos hk]; simp only [Int.toNat_natCast]
theorem step4 {s : T_edit_Step} {w h : Nat} {l : List Int} (hk : ¬ (1 ≤ s.Kind ∧ s.Kind ≤ 3)) : stepI s ⟨w, h, l⟩ = ⟨w, h, toneP s l (w * h)⟩ := by
  unfold stepI; rw [if_neg (by omega), if_neg (by omega), if_neg (by omega)]; simp only [Int.toNat_natCast]

theorem nums1 {s : T_edit_Step} (hs : stepE s = 0) (hk : s.Kind = 1) : 1 ≤ s.A ∧ s.A ≤ 8 := by
  have := (stepE_ok hs).2.1; unfold badS at this; simp [hk] at this; omega
theorem nums2 {s : T_edit_Step} (hs : stepE s = 0) (hk : s.Kind = 2) : 0 ≤ s.A ∧ 0 ≤ s.B ∧ 1 ≤ s.C ∧ 1 ≤ s.D := by
  have := (stepE_ok hs).2.1; unfold badS at this; simp [hk] at this; omega
theorem nums3 {s : T_edit_Step} (hs : stepE s = 0) (hk : s.Kind = 3) : 1 ≤ s.A ∧ s.A ≤ 64 ∧ 1 ≤ s.B ∧ s.B ≤ 64 := by
  have := (stepE_ok hs).2.1; unfold badS at this; simp [hk] at this; omega

theorem nat_of {a : Int} (h : 0 ≤ a) : ((a.toNat : Nat) : Int) = a := Int.toNat_of_nonneg h

theorem stepI_im {s : T_edit_Step} (hs : stepE s = 0) {w h : Nat} {l : List Int} (m : Im w h l) (hc : cropOk s w h) : ∃ w' h' : Nat, (stepI s ⟨w, h, l⟩).W = w' ∧ (stepI s ⟨w, h, l⟩).H = h' ∧ Im w' h' (stepI s ⟨w, h, l⟩).Pixels := by
  by_cases h1 : s.Kind = 1
  · have hn := nums1 hs h1
    rw [step1 h1]
    exact ⟨_, _, rfl, rfl, turn_im m (by omega)⟩
  by_cases h2 : s.Kind = 2
  · have hn := nums2 hs h2
    have hc := hc h2
    rw [step2 h2]
    exact ⟨s.C.toNat, s.D.toNat, (nat_of (a := s.C) (by omega)).symm, (nat_of (a := s.D) (by omega)).symm, crop_im m (by omega) (by omega)⟩
  by_cases h3 : s.Kind = 3
  · have hn := nums3 hs h3
    rw [step3 h3]
    exact ⟨s.A.toNat, s.B.toNat, (nat_of (a := s.A) (by omega)).symm, (nat_of (a := s.B) (by omega)).symm, scale_im (by omega) (by omega)⟩
  · rw [step4 (by omega)]
    exact ⟨w, h, rfl, rfl, tone_im m⟩

theorem ren_loop {ρ : Type} {F : (Int × Int × Int × List Int → Option ρ) → Int × Int × Int × List Int → Option ρ} (l : List T_edit_Step) (ho : okAll l) (J : T_api_Image → Option ρ)
    (step : ∀ next (k w h : Nat) (P : List Int) (hk : k < l.length), Im w h P → stepE l[k] = 0 → cropOk l[k] w h → F next ((k : Int), (w : Int), (h : Int), P) = next ((k : Int) + 1, (stepI l[k] ⟨w, h, P⟩).W, (stepI l[k] ⟨w, h, P⟩).H, (stepI l[k] ⟨w, h, P⟩).Pixels))
    (last : ∀ next W H P, F next ((l.length : Int), W, H, P) = J ⟨W, H, P⟩) {w h : Nat} {P : List Int} (m : Im w h P) (hz : (sizeGo l w h).2.2 = 0) : ∃ w' h' P', Im w' h' P' ∧ l.foldl (fun m s => stepI s m) ⟨w, h, P⟩ = ⟨w', h', P'⟩ ∧ fix F (0, (w : Int), (h : Int), P) = J ⟨w', h', P'⟩ := by
  obtain ⟨r, h1, h2⟩ : ∃ r : T_api_Image, (∃ w' h' : Nat, r = ⟨w', h', r.Pixels⟩ ∧ Im w' h' r.Pixels ∧ l.foldl (fun m s => stepI s m) ⟨w, h, P⟩ = r) ∧ fix F (0, (w : Int), (h : Int), P) = J r := by
    have key : ∀ n k (w1 h1 : Nat) (P1 : List Int), l.length - k = n → k ≤ l.length → Im w1 h1 P1 → (sizeGo (l.drop k) w1 h1).2.2 = 0 → ∃ r : T_api_Image, (∃ w' h' : Nat, r = ⟨w', h', r.Pixels⟩ ∧ Im w' h' r.Pixels ∧ (l.drop k).foldl (fun m s => stepI s m) ⟨w1, h1, P1⟩ = r) ∧ fix F ((k : Int), (w1 : Int), (h1 : Int), P1) = J r := by
      intro n
      induction n with
      | zero =>
        intro k w1 h1 P1 hn hk m1 hz1
        have : k = l.length := by omega
        subst this
        rw [List.drop_of_length_le (Nat.le_refl _)]
        exact ⟨⟨w1, h1, P1⟩, ⟨w1, h1, rfl, m1, rfl⟩, fix_done fun next => last next _ _ _⟩
      | succ n ih =>
        intro k w1 h1 P1 hn hk m1 hz1
        have hlt : k < l.length := by omega
        have hs := ho.at hlt
        rw [List.drop_eq_getElem_cons hlt] at hz1 ⊢
        simp only [sizeGo] at hz1
        have hc : cropOk l[k] w1 h1 := fun h2 => by
          rw [if_neg (by omega), if_pos h2] at hz1
          split at hz1
          · assumption
          · cases hz1
        obtain ⟨w2, h2, e1, e2, m2⟩ := stepI_im hs m1 hc
        have hz2 : (sizeGo (l.drop (k + 1)) w2 h2).2.2 = 0 := by
          rw [← e1, ← e2]
          by_cases k1 : l[k].Kind = 1
          · have hn := nums1 hs k1
            rw [if_pos k1] at hz1
            rw [step1 k1]
            show (sizeGo _ ((turnW l[k].A.toNat w1 h1 : Nat) : Int) ((turnH l[k].A.toNat w1 h1 : Nat) : Int)).2.2 = 0
            unfold turnW turnH
            by_cases h5 : 5 ≤ l[k].A
            · rw [if_pos h5] at hz1; rw [if_pos (by omega), if_pos (by omega)]; exact hz1
            · rw [if_neg h5] at hz1; rw [if_neg (by omega), if_neg (by omega)]; exact hz1
          · rw [if_neg k1] at hz1
            by_cases k2 : l[k].Kind = 2
            · rw [if_pos k2, if_pos (hc k2)] at hz1
              rw [step2 k2]; exact hz1
            · rw [if_neg k2] at hz1
              by_cases k3 : l[k].Kind = 3
              · rw [if_pos k3] at hz1
                rw [step3 k3]; exact hz1
              · rw [if_neg k3] at hz1
                have hkk := (stepE_ok hs).1
                rw [step4 (by omega)]; exact hz1
        obtain ⟨r, hr1, hr2⟩ := ih (k + 1) w2 h2 _ (by omega) (by omega) m2 hz2
        refine ⟨r, ?_, ?_⟩
        · rw [List.foldl_cons]
          have : stepI l[k] ⟨w1, h1, P1⟩ = ⟨(w2 : Int), (h2 : Int), (stepI l[k] ⟨w1, h1, P1⟩).Pixels⟩ := by rw [← e1, ← e2]
          rw [this]; exact hr1
        · refine (fix_goto _ fun next => step next k w1 h1 P1 hlt m1 hs hc).trans ?_
          rw [e1, e2]
          exact hr2
    exact key _ 0 w h P rfl (by omega) m hz
  obtain ⟨w', h', e, m', hf⟩ := h1
  exact ⟨w', h', r.Pixels, m', by rw [hf]; exact e, by rw [h2]; exact congrArg J e⟩

/-! ### the law -/

theorem equal_byte (l : List Int) (hl : l.length ≤ 1000000) : slices_Equal_byte l l = some true := by
  unfold slices_Equal_byte
  rw [cnd_if, if_neg (fun h => h rfl)]
  refine (up (F := fun next1 s => slices_Equal_byte_l1 l l next1 s) l.length (fun _ => some true) fun next k hk ih => ?_)
  show slices_Equal_byte_l1 l l next (k : Int) = _
  unfold slices_Equal_byte_l1
  rw [cnd_if]
  by_cases h : k < l.length
  · rw [if_pos (by omega), gAt_nat h, bnd_pure, bnd_pure, cnd_if, if_neg (fun h => h rfl), gI_ok (by omega), bnd_pure, ih h]
  · rw [if_neg (by omega)]

theorem same_image (m : T_api_Image) (hl : m.Pixels.length ≤ 1000000) : R1_SameImage m m = some true := by
  unfold R1_SameImage
  rw [cnd_if, if_pos rfl, cnd_if, if_pos rfl, equal_byte _ hl, bnd_pure]

end Go.M

/- Recipes in the keep-laws: the first question, what Render yields at every input, and the law EditTurns, in plain Lean. Conditions: none. -/
namespace Go.M
open Go.Md Go.Pl

/-! ### Render -/

def zeroI : T_api_Image := ⟨0, 0, []⟩
def renderS (m : T_api_Image) (l : List T_edit_Step) : T_api_Image × Int :=
  if stepsE l ≠ 0 then (zeroI, stepsE l) else if imgE m ≠ 0 then (zeroI, imgE m) else if (sizeGo l m.W m.H).2.2 ≠ 0 then (zeroI, (sizeGo l m.W m.H).2.2) else (l.foldl (fun m s => stepI s m) m, 0)

/-- What a Render that yields an image says. -/
theorem renderS_ok {m : T_api_Image} {l : List T_edit_Step} (h : (renderS m l).2 = 0) (hb : ∀ v ∈ m.Pixels, 0 ≤ v ∧ v ≤ 255) :
    ∃ w h : Nat, m = ⟨w, h, m.Pixels⟩ ∧ Im w h m.Pixels ∧ stepsE l = 0 ∧ l.length ≤ 50 ∧ okAll l ∧ (sizeGo l w h).2.2 = 0 ∧ (renderS m l).1 = l.foldl (fun m s => stepI s m) m := by
  unfold renderS at h ⊢
  by_cases h0 : stepsE l = 0
  · obtain ⟨hl, ho⟩ := stepsE_ok h0
    rw [if_neg (fun h => h h0)] at h ⊢
    by_cases h1 : imgE m = 0
    · obtain ⟨w, hh, e, im⟩ := imgE_im h1 hb
      rw [if_neg (fun h => h h1)] at h ⊢
      have eW : m.W = w := by rw [e]
      have eH : m.H = hh := by rw [e]
      rw [eW, eH] at h ⊢
      by_cases h2 : (sizeGo l (w : Int) (hh : Int)).2.2 = 0
      · rw [if_neg (fun h => h h2)]
        exact ⟨w, hh, e, im, h0, hl, ho, h2, rfl⟩
      · rw [if_pos h2] at h; exact absurd h h2
    · rw [if_pos h1] at h; exact absurd h h1
  · rw [if_pos h0] at h; exact absurd h h0

/-! ### EditTurns -/

theorem stepE_turn (t : Int) : stepE ⟨1, t, 0, 0, 0⟩ = if 1 ≤ t ∧ t ≤ 8 then 0 else 2 := by
  unfold stepE badS formS usedS
  simp only
  rw [if_neg (by omega)]
  by_cases h : 1 ≤ t ∧ t ≤ 8
  · rw [if_pos h]; simp; omega
  · rw [if_neg h]; simp; omega

end Go.M

/- The law EditPixels in plain Lean. Conditions: none. -/
namespace Go.M
open Go.Md Go.Pl

/-! ### pixels through all steps -/

def dotFold (l : List T_edit_Step) (p : Nat → Int) : Nat → Int := l.foldl (fun p s => dotA s p) p

theorem dotFold_byte : ∀ (l : List T_edit_Step) {p : Nat → Int}, byteArr 3 p → byteArr 3 (dotFold l p)
  | [], _, h => h
  | s :: r, _, h => dotFold_byte r (dotA_byte h)

theorem dotS_congr {s : T_edit_Step} {p q : Nat → Int} (h : ∀ j, j < 3 → p j = q j) {j : Nat} (hj : j < 3) : dotS s p j = dotS s q j := by
  unfold dotS
  rw [h 0 (by omega), h 1 (by omega), h 2 (by omega), h j hj]

def shapeK (s : T_edit_Step) : Prop := 1 ≤ s.Kind ∧ s.Kind ≤ 3
instance (s : T_edit_Step) : Decidable (shapeK s) := by unfold shapeK; infer_instance

theorem Shape_eq (s : T_edit_Step) : edit_Shape s = some (decide (shapeK s)) := by
  unfold edit_Shape
  rw [outside_edit, bnd_pure]
  congr 1
  by_cases h : shapeK s
  · rw [decide_eq_true h, decide_eq_false (by unfold shapeK at h; omega), decide_eq_false (by unfold shapeK at h; omega)]; rfl
  · rw [decide_eq_false h]
    unfold shapeK at h
    by_cases h1 : s.Kind < 1
    · rw [decide_eq_true h1]; rfl
    · rw [decide_eq_false h1, decide_eq_true (by omega)]; rfl
theorem Shaped_eq (s : T_edit_Step) : R_Shaped s = some (decide (shapeK s)) := by
  unfold R_Shaped
  rw [cnd_if]
  by_cases h1 : 1 ≤ s.Kind
  · rw [if_pos h1]
    congr 1
    by_cases h2 : s.Kind ≤ 3
    · rw [decide_eq_true h2, decide_eq_true (show shapeK s from ⟨h1, h2⟩)]
    · rw [decide_eq_false h2, decide_eq_false (fun h : shapeK s => h2 h.2)]
  · rw [if_neg h1, decide_eq_false (fun h : shapeK s => h1 h.1)]

/-! ### the law -/

/-- The fold over a pixel whose colours are the same byte. -/
theorem dotFold_grey : ∀ (l : List T_edit_Step), (∀ s ∈ l, byteK s) → ∀ (p : Nat → Int) (j : Nat), j < 3 → dotFold l p j = byteFold l (p j)
  | [], _, _, _, _ => rfl
  | s :: r, h, p, j, hj => by
    show dotFold r (dotA s p) j = byteFold r (toneB s (p j))
    rw [dotFold_grey r (fun x hx => h x (by simp [hx])) _ j hj]
    congr 1
    unfold dotA dotS
    have hb := h s (by simp)
    rw [if_pos hj, if_neg (by unfold byteK at hb; omega), if_neg (by unfold byteK at hb; omega), if_pos hb]

theorem dotFold_congr : ∀ (l : List T_edit_Step) {p q : Nat → Int}, (∀ j, j < 3 → p j = q j) → ∀ j, j < 3 → dotFold l p j = dotFold l q j
  | [], _, _, h, j, hj => h j hj
  | s :: r, p, q, h, j, hj => dotFold_congr r (fun i hi => by
    show dotA s p i = dotA s q i
    unfold dotA
    rw [if_pos hi, if_pos hi]
    exact dotS_congr h hi) j hj

/-- The law's own errors: of single bytes, and of pixels. -/
def goodB (s : T_edit_Step) : Prop := ¬ shapeK s ∧ s.Kind ≠ 7 ∧ s.Kind ≠ 8
instance (s : T_edit_Step) : Decidable (goodB s) := by unfold goodB; infer_instance
def errB (e : Int) (l : List T_edit_Step) : Int := if e ≠ 0 then e else if ∀ s ∈ l, goodB s then 0 else 10
def errP (e : Int) (l : List T_edit_Step) : Int := if e ≠ 0 then e else if ∀ s ∈ l, ¬ shapeK s then 0 else 10

theorem errB_e {e : Int} (h : e ≠ 0) (l : List T_edit_Step) : errB e l = e := if_pos h
theorem errB_0 {l : List T_edit_Step} (h : ∀ s ∈ l, goodB s) : errB 0 l = 0 := by unfold errB; rw [if_neg (fun h => h rfl), if_pos h]
theorem errB_1 {l : List T_edit_Step} (h : ¬ ∀ s ∈ l, goodB s) : errB 0 l = 10 := by unfold errB; rw [if_neg (fun h => h rfl), if_neg h]
theorem errB_snoc (e : Int) (l : List T_edit_Step) (s : T_edit_Step) : (if errB e l ≠ 0 then errB e l else if goodB s then 0 else 10) = errB e (l ++ [s]) := by
  by_cases h0 : e = 0
  · subst h0
    by_cases h1 : ∀ s ∈ l, goodB s
    · rw [errB_0 h1, if_neg (fun h => h rfl)]
      by_cases h2 : goodB s
      · rw [if_pos h2, errB_0]
        intro x hx
        rcases List.mem_append.1 hx with hx | hx
        · exact h1 x hx
        · rw [List.mem_singleton.1 hx]; exact h2
      · rw [if_neg h2, errB_1 fun h => h2 (h s (by simp))]
    · rw [errB_1 h1, if_pos (by decide), errB_1 fun h => h1 fun x hx => h x (by simp [hx])]
  · rw [errB_e h0, errB_e h0, if_pos h0]
theorem errP_e {e : Int} (h : e ≠ 0) (l : List T_edit_Step) : errP e l = e := if_pos h
theorem errP_0 {l : List T_edit_Step} (h : ∀ s ∈ l, ¬ shapeK s) : errP 0 l = 0 := by unfold errP; rw [if_neg (fun h => h rfl), if_pos h]
theorem errP_1 {l : List T_edit_Step} (h : ¬ ∀ s ∈ l, ¬ shapeK s) : errP 0 l = 10 := by unfold errP; rw [if_neg (fun h => h rfl), if_neg h]
theorem errP_snoc (e : Int) (l : List T_edit_Step) (s : T_edit_Step) : (if errP e l ≠ 0 then errP e l else if ¬ shapeK s then 0 else 10) = errP e (l ++ [s]) := by
  by_cases h0 : e = 0
  · subst h0
    by_cases h1 : ∀ s ∈ l, ¬ shapeK s
    · rw [errP_0 h1, if_neg (fun h => h rfl)]
      by_cases h2 : ¬ shapeK s
      · rw [if_pos h2, errP_0]
        intro x hx
        rcases List.mem_append.1 hx with hx | hx
        · exact h1 x hx
        · rw [List.mem_singleton.1 hx]; exact h2
      · rw [if_neg h2, errP_1 fun h => h2 (h s (by simp))]
    · rw [errP_1 h1, if_pos (by decide), errP_1 fun h => h1 fun x hx => h x (by simp [hx])]
  · rw [errP_e h0, errP_e h0, if_pos h0]

theorem errB_eq (l : List T_edit_Step) : errB (stepsE l) l = if stepsE l ≠ 0 then stepsE l else if ∀ s ∈ l, byteK s then 0 else 10 := by
  unfold errB
  by_cases h0 : stepsE l = 0
  · have n0 : ¬ (stepsE l ≠ 0) := fun h => h h0
    rw [if_neg n0, if_neg n0]
    have ho := (stepsE_ok h0).2
    have : (∀ s ∈ l, goodB s) ↔ ∀ s ∈ l, byteK s := by
      constructor <;> intro h s hs <;> have h1 := h s hs <;> have h2 := (stepE_ok (ho s hs)).1 <;> unfold goodB shapeK at * <;> unfold byteK at * <;> omega
    by_cases h : ∀ s ∈ l, goodB s
    · rw [if_pos h, if_pos (this.1 h)]
    · rw [if_neg h, if_neg fun h' => h (this.2 h')]
  · rw [if_pos h0, if_pos h0]

end Go.M

/- Images pixel by pixel: tone steps commute with turns and crops; recipes put apart; the law EditApart, in plain Lean. Conditions: none. -/
namespace Go.M
open Go.Md Go.Pl

/-! ### pixels -/

theorem flat3 {f : Nat → List Int} : ∀ (n k : Nat), (∀ i, i < n → (f i).length = 3) → k < n → (((List.range n).flatMap f).drop (3 * k)).take 3 = f k := by
  intro n
  induction n with
  | zero => intro k _ h; omega
  | succ n ih =>
    intro k hf hk
    rw [List.range_succ, List.flatMap_append, List.flatMap_singleton]
    have hl : ∀ m, m ≤ n → ((List.range m).flatMap f).length = 3 * m := by
      intro m
      induction m with
      | zero => intro _; rfl
      | succ m ihm => intro hm; rw [List.range_succ, List.flatMap_append, List.flatMap_singleton, List.length_append, ihm (by omega), hf m (by omega)]; omega
    rcases Nat.lt_or_ge k n with h | h
    · rw [List.drop_append_of_le_length (by rw [hl n (Nat.le_refl _)]; omega), List.take_append_of_le_length (by rw [List.length_drop, hl n (Nat.le_refl _)]; omega)]
      exact ih k (fun i hi => hf i (by omega)) h
    · have : k = n := by omega
      subst this
      rw [show 3 * k = ((List.range k).flatMap f).length from (hl k (Nat.le_refl _)).symm, List.drop_left, List.take_of_length_le (by rw [hf k (by omega)]; omega)]

def px3 (w h : Nat) (px : Nat → Nat → List Int) : Prop := ∀ x y, x < w → y < h → (px x y).length = 3

theorem px3.k {w h : Nat} {px : Nat → Nat → List Int} (p : px3 w h px) {k : Nat} (hk : k < w * h) : (px (k % w) (k / w)).length = 3 := by
  have hw : 0 < w := by
    rcases Nat.eq_zero_or_pos w with h0 | h0
    · subst h0; omega
    · exact h0
  exact p _ _ (Nat.mod_lt _ hw) (Nat.div_lt_of_lt_mul hk)

theorem pxN_img {w h : Nat} {px : Nat → Nat → List Int} (p : px3 w h px) {a b : Nat} (ha : a < w) (hb : b < h) : pxN w (imgL w h px) a b = px a b := by
  have h0 := idx_lt ha hb
  have := flat3 (f := fun k => px (k % w) (k / w)) (w * h) (b * w + a) (fun i hi => p.k hi) (by omega)
  unfold pxN imgL pre3
  rw [this]
  have h1 : (b * w + a) % w = a := by rw [Nat.mul_comm, Nat.mul_add_mod]; exact Nat.mod_eq_of_lt ha
  have h2 : (b * w + a) / w = b := by rw [Nat.mul_comm, Nat.mul_add_div (by omega), Nat.div_eq_of_lt ha, Nat.add_zero]
  rw [h1, h2]

theorem img_congr {w h : Nat} {px qx : Nat → Nat → List Int} (e : ∀ x y, x < w → y < h → px x y = qx x y) : imgL w h px = imgL w h qx := by
  unfold imgL pre3
  rw [List.flatMap_def, List.flatMap_def]
  congr 1
  refine List.map_congr_left fun k hk => ?_
  have hk := List.mem_range.1 hk
  have hw : 0 < w := by
    rcases Nat.eq_zero_or_pos w with h0 | h0
    · subst h0; omega
    · exact h0
  exact e _ _ (Nat.mod_lt _ hw) (Nat.div_lt_of_lt_mul hk)

theorem img_self {w h : Nat} {l : List Int} (m : Im w h l) : imgL w h (pxN w l) = l := by
  have h1 := turn_one m
  have h2 : imgL w h (turnPx 1 w h l) = imgL w h (pxN w l) := img_congr fun x y _ _ => by
    show pxN w l ((x : Nat) : Int).toNat ((y : Nat) : Int).toNat = _
    rw [Int.toNat_natCast, Int.toNat_natCast]
  rw [← h2, h1]

def tone1 (s : T_edit_Step) (q : List Int) : List Int := [dotS s (ofL q) 0, dotS s (ofL q) 1, dotS s (ofL q) 2]

theorem ofL_take {l : List Int} {j : Nat} (hj : j < 3) : ofL (l.take 3) j = ofL l j := by
  unfold ofL
  rw [List.getD_eq_getElem?_getD, List.getD_eq_getElem?_getD, List.getElem?_take, if_pos hj]

theorem tone3_eq (s : T_edit_Step) (l : List Int) (k : Nat) : tone3 s l k = tone1 s ((l.drop (3 * k)).take 3) := by
  unfold tone3 tone1 triS
  rw [dotS_cg (q := ofL ((l.drop (3 * k)).take 3)) (fun j hj => (ofL_take hj).symm) (by omega : 0 < 3), dotS_cg (q := ofL ((l.drop (3 * k)).take 3)) (fun j hj => (ofL_take hj).symm) (by omega : 1 < 3), dotS_cg (q := ofL ((l.drop (3 * k)).take 3)) (fun j hj => (ofL_take hj).symm) (by omega : 2 < 3)]

theorem tone_img {s : T_edit_Step} {w h : Nat} {px : Nat → Nat → List Int} (p : px3 w h px) : toneP s (imgL w h px) (w * h) = imgL w h (fun x y => tone1 s (px x y)) := by
  unfold toneP
  show _ = pre3 w _ (w * h)
  unfold pre3
  rw [List.flatMap_def, List.flatMap_def]
  congr 1
  refine List.map_congr_left fun k hk => ?_
  have hk := List.mem_range.1 hk
  rw [tone3_eq]
  unfold imgL pre3
  rw [flat3 (f := fun k => px (k % w) (k / w)) (w * h) k (fun i hi => p.k hi) hk]

theorem px3_tone {s : T_edit_Step} {w h : Nat} {px : Nat → Nat → List Int} : px3 w h (fun x y => tone1 s (px x y)) := fun _ _ _ _ => rfl

theorem px3_im {w h : Nat} {l : List Int} (m : Im w h l) : px3 w h (pxN w l) := fun _ _ hx hy => pxN_len m hx hy

theorem srcT {t w h x y : Nat} (ht : 1 ≤ t ∧ t ≤ 8) (hx : x < turnW t w h) (hy : y < turnH t w h) : ∃ a b : Nat, srcS t w h x y = ((a : Int), (b : Int)) ∧ a < w ∧ b < h := srcN ht hx hy

/-- A turn of an image that is told by its pixels. -/
theorem turn_px {t w h : Nat} {px : Nat → Nat → List Int} (ht : 1 ≤ t ∧ t ≤ 8) (p : px3 w h px) : imgL (turnW t w h) (turnH t w h) (turnPx t w h (imgL w h px)) = imgL (turnW t w h) (turnH t w h) (fun x y => px (srcS t w h x y).1.toNat (srcS t w h x y).2.toNat) :=
  img_congr fun x y hx hy => by
    obtain ⟨a, b, e, ha, hb⟩ := srcT ht hx hy
    unfold turnPx
    rw [e]
    simp only [Int.toNat_natCast]
    exact pxN_img p ha hb

theorem crop_px {w h a b c d : Nat} {px : Nat → Nat → List Int} (p : px3 w h px) (hc : a + c ≤ w) (hd : b + d ≤ h) : imgL c d (cropPx w (imgL w h px) a b) = imgL c d (fun x y => px (a + x) (b + y)) :=
  img_congr fun x y hx hy => by unfold cropPx; exact pxN_img p (by omega) (by omega)

def toneK (s : T_edit_Step) : Prop := ¬ (1 ≤ s.Kind ∧ s.Kind ≤ 3)
def moveK (s : T_edit_Step) : Prop := s.Kind = 1 ∨ s.Kind = 2

/-- A tone step and a turn or a crop change places. -/
theorem step_comm {s t : T_edit_Step} {w h : Nat} {l : List Int} (m : Im w h l) (ht : stepE t = 0) (hs : toneK s) (hm : moveK t) (hc : cropOk t w h) : stepI t (stepI s ⟨w, h, l⟩) = stepI s (stepI t ⟨w, h, l⟩) := by
  have e0 : l = imgL w h (pxN w l) := (img_self m).symm
  generalize hpx : pxN w l = px at e0
  have p : px3 w h px := hpx ▸ px3_im m
  subst e0
  rw [step4 hs, tone_img p]
  rcases hm with h1 | h2
  · have hn := nums1 ht h1
    have ht' : 1 ≤ t.A.toNat ∧ t.A.toNat ≤ 8 := by omega
    rw [step1 h1, step1 h1, step4 hs, turn_px ht' px3_tone, turn_px ht' p, turn_area, ← turn_area t.A.toNat w h, tone_img]
    intro x y hx hy
    obtain ⟨a, b, e, ha, hb⟩ := srcT ht' hx hy
    show (px (srcS t.A.toNat w h x y).1.toNat (srcS t.A.toNat w h x y).2.toNat).length = 3
    rw [e]; exact p _ _ (by simpa using ha) (by simpa using hb)
  · have hn := nums2 ht h2
    have hc := hc h2
    have ec : t.C = (t.C.toNat : Int) := by omega
    have ed : t.D = (t.D.toNat : Int) := by omega
    rw [step2 h2, step2 h2, crop_px px3_tone (by omega) (by omega), crop_px p (by omega) (by omega)]
    generalize t.C.toNat = c at *
    generalize t.D.toNat = d at *
    rw [ec, ed, step4 hs, tone_img]
    intro x y hx hy
    exact p _ _ (by omega) (by omega)

/-! ### sizes -/

theorem sizeGo_append : ∀ (a b : List T_edit_Step) (w h : Int), (sizeGo a w h).2.2 = 0 → sizeGo (a ++ b) w h = sizeGo b (sizeGo a w h).1 (sizeGo a w h).2.1
  | [], b, w, h, _ => rfl
  | s :: r, b, w, h, hz => by
    simp only [List.cons_append, sizeGo] at hz ⊢
    split
    · rename_i h1; rw [if_pos h1] at hz
      split
      · rename_i h5; rw [if_pos h5] at hz; exact sizeGo_append r b _ _ hz
      · rename_i h5; rw [if_neg h5] at hz; exact sizeGo_append r b _ _ hz
    · rename_i h1; rw [if_neg h1] at hz
      split
      · rename_i h2; rw [if_pos h2] at hz
        split
        · rename_i h3; rw [if_pos h3] at hz; exact sizeGo_append r b _ _ hz
        · rename_i h3; rw [if_neg h3] at hz; cases hz
      · rename_i h2; rw [if_neg h2] at hz
        split
        · rename_i h3; rw [if_pos h3] at hz; exact sizeGo_append r b _ _ hz
        · rename_i h3; rw [if_neg h3] at hz; exact sizeGo_append r b _ _ hz

theorem sizeGo_pre : ∀ (a b : List T_edit_Step) (w h : Int), (sizeGo (a ++ b) w h).2.2 = 0 → (sizeGo a w h).2.2 = 0
  | [], b, w, h, _ => rfl
  | s :: r, b, w, h, hz => by
    simp only [List.cons_append, sizeGo] at hz ⊢
    split
    · rename_i h1; rw [if_pos h1] at hz
      split
      · rename_i h5; rw [if_pos h5] at hz; exact sizeGo_pre r b _ _ hz
      · rename_i h5; rw [if_neg h5] at hz; exact sizeGo_pre r b _ _ hz
    · rename_i h1; rw [if_neg h1] at hz
      split
      · rename_i h2; rw [if_pos h2] at hz
        split
        · rename_i h3; rw [if_pos h3] at hz; exact sizeGo_pre r b _ _ hz
        · rename_i h3; rw [if_neg h3] at hz; cases hz
      · rename_i h2; rw [if_neg h2] at hz
        split
        · rename_i h3; rw [if_pos h3] at hz; exact sizeGo_pre r b _ _ hz
        · rename_i h3; rw [if_neg h3] at hz; exact sizeGo_pre r b _ _ hz

theorem sizeGo_tones : ∀ (l : List T_edit_Step) (w h : Int), (∀ s ∈ l, toneK s) → sizeGo l w h = (w, h, 0)
  | [], _, _, _ => rfl
  | s :: r, w, h, ht => by
    have h0 := ht s (by simp)
    unfold toneK at h0
    simp only [sizeGo]
    rw [if_neg (by omega), if_neg (by omega), if_neg (by omega)]
    exact sizeGo_tones r w h fun x hx => ht x (by simp [hx])

theorem sizeGo_shape : ∀ (l : List T_edit_Step) (w h : Int), sizeGo (l.filter fun s => decide (shapeK s)) w h = sizeGo l w h
  | [], _, _ => rfl
  | s :: r, w, h => by
    by_cases hs : shapeK s
    · rw [List.filter_cons_of_pos (by simpa using hs)]
      simp only [sizeGo]
      split
      · split <;> exact sizeGo_shape r _ _
      · split
        · split
          · exact sizeGo_shape r _ _
          · rfl
        · split <;> exact sizeGo_shape r _ _
    · rw [List.filter_cons_of_neg (by simpa using hs), sizeGo_shape r]
      unfold shapeK at hs
      simp only [sizeGo]
      rw [if_neg (by omega), if_neg (by omega), if_neg (by omega)]

/-- One step: the sizes, and the image. -/
theorem step_size {s : T_edit_Step} {r : List T_edit_Step} {w h : Nat} {l : List Int} (m : Im w h l) (hs : stepE s = 0) (hz : (sizeGo (s :: r) w h).2.2 = 0) :
    cropOk s w h ∧ ∃ w' h' : Nat, (stepI s ⟨w, h, l⟩) = ⟨w', h', (stepI s ⟨w, h, l⟩).Pixels⟩ ∧ Im w' h' (stepI s ⟨w, h, l⟩).Pixels ∧ sizeGo (s :: r) w h = sizeGo r w' h' := by
  simp only [sizeGo] at hz ⊢
  have hc : cropOk s w h := fun h2 => by
    rw [if_neg (by omega), if_pos h2] at hz
    split at hz
    · assumption
    · cases hz
  refine ⟨hc, ?_⟩
  obtain ⟨w2, h2, e1, e2, m2⟩ := stepI_im hs m hc
  refine ⟨w2, h2, by rw [← e1, ← e2], m2, ?_⟩
  rw [← e1, ← e2]
  by_cases k1 : s.Kind = 1
  · have hn := nums1 hs k1
    rw [if_pos k1, step1 k1]
    show _ = sizeGo _ ((turnW s.A.toNat w h : Nat) : Int) ((turnH s.A.toNat w h : Nat) : Int)
    unfold turnW turnH
    by_cases h5 : 5 ≤ s.A
    · rw [if_pos h5, if_pos (by omega), if_pos (by omega)]
    · rw [if_neg h5, if_neg (by omega), if_neg (by omega)]
  · rw [if_neg k1]
    by_cases k2 : s.Kind = 2
    · rw [if_pos k2, if_pos (hc k2), step2 k2]
    · rw [if_neg k2]
      by_cases k3 : s.Kind = 3
      · rw [if_pos k3, step3 k3]
      · have hkk := (stepE_ok hs).1
        rw [if_neg k3, step4 (by omega)]

abbrev runI (l : List T_edit_Step) (m : T_api_Image) : T_api_Image := l.foldl (fun m s => stepI s m) m

theorem tone_size {s : T_edit_Step} {w h : Nat} {l : List Int} (hs : toneK s) : stepI s ⟨w, h, l⟩ = ⟨w, h, (stepI s ⟨w, h, l⟩).Pixels⟩ := by rw [step4 hs]

/-- A tone step goes behind turns and crops. -/
theorem tone_last {s : T_edit_Step} (hs : toneK s) (hE : stepE s = 0) : ∀ (q : List T_edit_Step) {w h : Nat} {l : List Int}, Im w h l → okAll q → (∀ t ∈ q, moveK t) → (sizeGo q w h).2.2 = 0 → runI q (stepI s ⟨w, h, l⟩) = stepI s (runI q ⟨w, h, l⟩)
  | [], _, _, _, _, _, _, _ => rfl
  | t :: q, w, h, l, m, ho, hm, hz => by
    have hE1 := ho t (by simp)
    obtain ⟨hc, w', h', e, m', ez⟩ := step_size m hE1 hz
    show runI q (stepI t (stepI s ⟨w, h, l⟩)) = stepI s (runI q (stepI t ⟨w, h, l⟩))
    rw [step_comm m hE1 hs (hm t (by simp)) hc, e]
    exact tone_last hs hE q m' (fun x hx => ho x (by simp [hx])) (fun x hx => hm x (by simp [hx])) (by rw [← ez]; exact hz)

/-- No Scale behind a tone step. -/
def SA (l : List T_edit_Step) : Prop := ∀ i j (hj : j < l.length) (hi : i < j), toneK (l[i]'(by omega)) → (l[j]).Kind ≠ 3

theorem SA.tail {s : T_edit_Step} {r : List T_edit_Step} (h : SA (s :: r)) : SA r := fun i j hj hi ht => h (i + 1) (j + 1) (by simp; omega) (by omega) ht
theorem SA.head {s : T_edit_Step} {r : List T_edit_Step} (h : SA (s :: r)) (hs : toneK s) : ∀ t ∈ r, t.Kind ≠ 3 := fun t ht => by
  obtain ⟨j, hj, rfl⟩ := List.getElem_of_mem ht
  exact h 0 (j + 1) (by simp; omega) (by omega) hs

abbrev shapes (l : List T_edit_Step) : List T_edit_Step := l.filter fun s => decide (shapeK s)
abbrev tones (l : List T_edit_Step) : List T_edit_Step := l.filter fun s => !decide (shapeK s)

theorem parts_len : ∀ l : List T_edit_Step, (shapes l).length + (tones l).length = l.length
  | [] => rfl
  | s :: r => by
    have ih := parts_len r
    show (List.filter _ (s :: r)).length + (List.filter _ (s :: r)).length = _
    by_cases hs : shapeK s
    · rw [List.filter_cons_of_pos (by simpa using hs), List.filter_cons_of_neg (by simpa using hs)]
      simp only [List.length_cons]; unfold shapes tones at ih; omega
    · rw [List.filter_cons_of_neg (by simpa using hs), List.filter_cons_of_pos (by simpa using hs)]
      simp only [List.length_cons]; unfold shapes tones at ih; omega

theorem run_apart : ∀ (l : List T_edit_Step) {w h : Nat} {P : List Int}, Im w h P → okAll l → SA l → (sizeGo l w h).2.2 = 0 → runI (shapes l ++ tones l) ⟨w, h, P⟩ = runI l ⟨w, h, P⟩
  | [], _, _, _, _, _, _, _ => rfl
  | s :: r, w, h, P, m, ho, hsa, hz => by
    have hE := ho s (by simp)
    obtain ⟨hc, w', h', e, m', ez⟩ := step_size m hE hz
    have ho' : okAll r := fun x hx => ho x (by simp [hx])
    have ih := run_apart r m' ho' hsa.tail (by rw [← ez]; exact hz)
    rw [← e] at ih
    show _ = runI r (stepI s ⟨w, h, P⟩)
    rw [← ih]
    by_cases hs : shapeK s
    · show runI (List.filter _ (s :: r) ++ List.filter _ (s :: r)) _ = _
      rw [List.filter_cons_of_pos (by simpa using hs), List.filter_cons_of_neg (by simpa using hs)]
      rfl
    · show runI (List.filter _ (s :: r) ++ List.filter _ (s :: r)) _ = _
      rw [List.filter_cons_of_neg (by simpa using hs), List.filter_cons_of_pos (by simpa using hs)]
      have ht : toneK s := hs
      have h3 := hsa.head ht
      have e4 : (sizeGo r w h).2.2 = 0 := by
        have : sizeGo (s :: r) w h = sizeGo r w h := by
          unfold toneK at ht
          simp only [sizeGo]
          rw [if_neg (by omega), if_neg (by omega), if_neg (by omega)]
        rw [← this]; exact hz
      have hl := tone_last ht hE (shapes r) m (fun x hx => ho' x (List.mem_filter.1 hx).1) (fun x hx => by
        have hx1 := (List.mem_filter.1 hx).1
        have hx2 := (List.mem_filter.1 hx).2
        have hx3 := h3 x hx1
        simp only [decide_eq_true_eq] at hx2
        unfold shapeK at hx2
        unfold moveK; omega) (by rw [sizeGo_shape]; exact e4)
      unfold runI at hl ⊢
      rw [List.foldl_append, List.foldl_append, List.foldl_cons, hl]

/-! ### the functions -/

theorem apart_eq (l : List T_edit_Step) (hl : l.length ≤ 3518437208780) : edit_apart l = some (shapes l, tones l) := by
  unfold edit_apart
  have key := fix_list (F := fun next2 s => edit_apart_l2 l next2 s.1 s.2.1 s.2.2) l (fun (p : List T_edit_Step × List T_edit_Step) s => if shapeK s then (p.1 ++ [s], p.2) else (p.1, p.2 ++ [s])) (fun p => some p) (fun k p => p.1.length ≤ k ∧ p.2.length ≤ k)
    (fun next k p hk hI => by
      obtain ⟨h1, h2⟩ := hI
      refine ⟨?_, ?_⟩
      · show edit_apart_l2 l next (k : Int) p.1 p.2 = _
        unfold edit_apart_l2 edit_apart_j3
        rw [cnd_if, if_pos (by omega), gAt_nat hk, bnd_pure, Shape_eq, bnd_pure, cnd_if]
        by_cases hs : shapeK l[k]
        · rw [if_pos hs, if_pos hs, gApp_ok (by simp only [List.length_cons, List.length_nil]; omega), bnd_pure, gI_ok (by omega), bnd_pure]
        · rw [if_neg hs, if_neg hs, gApp_ok (by simp only [List.length_cons, List.length_nil]; omega), bnd_pure, gI_ok (by omega), bnd_pure]
      · by_cases hs : shapeK l[k]
        · rw [if_pos hs]; simp; omega
        · rw [if_neg hs]; simp; omega)
    (fun next p _ => by
      show edit_apart_l2 l next (l.length : Int) p.1 p.2 = _
      unfold edit_apart_l2
      rw [cnd_if, if_neg (by omega)]; rfl) ([], []) ⟨by simp, by simp⟩
  refine key.trans ?_
  congr 1
  have gen : ∀ (l a b : List T_edit_Step), l.foldl (fun (p : List T_edit_Step × List T_edit_Step) s => if shapeK s then (p.1 ++ [s], p.2) else (p.1, p.2 ++ [s])) (a, b) = (a ++ shapes l, b ++ tones l) := by
    intro l
    induction l with
    | nil => intro a b; simp
    | cons s r ih =>
      intro a b
      rw [List.foldl_cons]
      by_cases hs : shapeK s
      · rw [if_pos hs, ih]
        show _ = (a ++ List.filter _ (s :: r), b ++ List.filter _ (s :: r))
        rw [List.filter_cons_of_pos (by simpa using hs), List.filter_cons_of_neg (by simpa using hs)]
        simp
      · rw [if_neg hs, ih]
        show _ = (a ++ List.filter _ (s :: r), b ++ List.filter _ (s :: r))
        rw [List.filter_cons_of_neg (by simpa using hs), List.filter_cons_of_pos (by simpa using hs)]
        simp
  simpa using gen l [] []

theorem Apart_eq {l : List T_edit_Step} (h : stepsE l = 0) : edit_Apart l = some (shapes l, tones l, 0) := by
  unfold edit_Apart
  rw [Check_eq, bnd_pure, h, cnd_if, if_neg (by simp), apart_eq l (by have := (stepsE_ok h).1; omega), bnd_pure]

theorem Concat2 (a b : List T_edit_Step) (ha : (a.length + b.length) * 40 ≤ 281474976710656) : slices_Concat_edit_Step [a, b] = some (a ++ b) := by
  unfold slices_Concat_edit_Step
  refine (fix_goto (F := fun next3 s => slices_Concat_edit_Step_l3 [a, b] next3 s.1 s.2) ((a.length : Int), 1) fun next => ?_).trans ((fix_goto (F := fun next3 s => slices_Concat_edit_Step_l3 [a, b] next3 s.1 s.2) ((a.length : Int) + (b.length : Int), 2) fun next => ?_).trans (fix_done fun next => ?_))
  · show slices_Concat_edit_Step_l3 [a, b] next 0 0 = _
    unfold slices_Concat_edit_Step_l3
    rw [cnd_if, if_pos (by simp), show gAt [a, b] 0 = some a from rfl, bnd_pure, gI_ok (by omega), bnd_pure, cnd_if, if_neg (by omega), gI_ok (by omega), bnd_pure]
    simp
  · show slices_Concat_edit_Step_l3 [a, b] next (a.length : Int) 1 = _
    unfold slices_Concat_edit_Step_l3
    rw [cnd_if, if_pos (by simp), show gAt [a, b] 1 = some b from rfl, bnd_pure, gI_ok (by omega), bnd_pure, cnd_if, if_neg (by omega), gI_ok (by omega), bnd_pure]
    rfl
  · show slices_Concat_edit_Step_l3 [a, b] next ((a.length : Int) + (b.length : Int)) 2 = _
    unfold slices_Concat_edit_Step_l3
    rw [cnd_if, if_neg (by simp)]
    unfold slices_Concat_edit_Step_j1
    rw [gGroC_ok (by omega), bnd_pure]
    refine (fix_goto (F := fun next2 s => slices_Concat_edit_Step_l2 [a, b] ((a.length : Int) + (b.length : Int)).toNat next2 s.1 s.2) (1, a) fun next => ?_).trans ((fix_goto (F := fun next2 s => slices_Concat_edit_Step_l2 [a, b] ((a.length : Int) + (b.length : Int)).toNat next2 s.1 s.2) (2, a ++ b) fun next => ?_).trans (fix_done fun next => ?_))
    · show slices_Concat_edit_Step_l2 [a, b] ((a.length : Int) + (b.length : Int)).toNat next 0 [] = _
      unfold slices_Concat_edit_Step_l2
      rw [cnd_if, if_pos (by simp), show gAt [a, b] 0 = some a from rfl, bnd_pure, gApC_ok (by simp only [List.length_nil]; omega), bnd_pure, gI_ok (by omega), bnd_pure]
      rfl
    · show slices_Concat_edit_Step_l2 [a, b] ((a.length : Int) + (b.length : Int)).toNat next 1 a = _
      unfold slices_Concat_edit_Step_l2
      rw [cnd_if, if_pos (by simp), show gAt [a, b] 1 = some b from rfl, bnd_pure, gApC_ok (by omega), bnd_pure, gI_ok (by omega), bnd_pure]
      rfl
    · show slices_Concat_edit_Step_l2 [a, b] ((a.length : Int) + (b.length : Int)).toNat next 2 (a ++ b) = _
      unfold slices_Concat_edit_Step_l2
      rw [cnd_if, if_neg (by simp)]

theorem parted_ok {l : List T_edit_Step} (h : stepsE l = 0) : stepsE (shapes l ++ tones l) = 0 := by
  obtain ⟨hl, ho⟩ := stepsE_ok h
  have hlen : (shapes l ++ tones l).length = l.length := by
    rw [List.length_append]
    exact parts_len l
  unfold stepsE
  rw [hlen, if_neg (by omega)]
  refine fstE_all fun e he => ?_
  obtain ⟨s, hs, rfl⟩ := List.mem_map.1 he
  rcases List.mem_append.1 hs with hs | hs
  · exact ho s (List.mem_filter.1 hs).1
  · exact ho s (List.mem_filter.1 hs).1

theorem parted_size {l : List T_edit_Step} {w h : Int} (hz : (sizeGo l w h).2.2 = 0) : (sizeGo (shapes l ++ tones l) w h).2.2 = 0 := by
  rw [sizeGo_append _ _ _ _ (by rw [sizeGo_shape]; exact hz), sizeGo_tones]
  intro s hs
  have := (List.mem_filter.1 hs).2
  simp only [Bool.not_eq_true', decide_eq_false_iff_not] at this
  exact this

end Go.M

/- Three rows joined, in plain Lean. Conditions: none. -/
namespace Go.M
open Go.Md Go.Pl

theorem Concat3 (a b c : List T_edit_Step) (ha : (a.length + b.length + c.length) * 40 ≤ 281474976710656) : slices_Concat_edit_Step [a, b, c] = some (a ++ b ++ c) := by
  unfold slices_Concat_edit_Step
  refine (fix_goto (F := fun next3 s => slices_Concat_edit_Step_l3 [a, b, c] next3 s.1 s.2) ((a.length : Int), 1) fun next => ?_).trans ((fix_goto (F := fun next3 s => slices_Concat_edit_Step_l3 [a, b, c] next3 s.1 s.2) ((a.length : Int) + (b.length : Int), 2) fun next => ?_).trans ((fix_goto (F := fun next3 s => slices_Concat_edit_Step_l3 [a, b, c] next3 s.1 s.2) ((a.length : Int) + (b.length : Int) + (c.length : Int), 3) fun next => ?_).trans (fix_done fun next => ?_)))
  · show slices_Concat_edit_Step_l3 [a, b, c] next 0 0 = _
    unfold slices_Concat_edit_Step_l3
    rw [cnd_if, if_pos (by simp only [List.length_cons, List.length_nil]; omega), show gAt [a, b, c] 0 = some a from rfl, bnd_pure, gI_ok (by omega), bnd_pure, cnd_if, if_neg (by omega), gI_ok (by omega), bnd_pure]
    simp
  · show slices_Concat_edit_Step_l3 [a, b, c] next (a.length : Int) 1 = _
    unfold slices_Concat_edit_Step_l3
    rw [cnd_if, if_pos (by simp only [List.length_cons, List.length_nil]; omega), show gAt [a, b, c] 1 = some b from rfl, bnd_pure, gI_ok (by omega), bnd_pure, cnd_if, if_neg (by omega), gI_ok (by omega), bnd_pure]
    rfl
  · show slices_Concat_edit_Step_l3 [a, b, c] next ((a.length : Int) + (b.length : Int)) 2 = _
    unfold slices_Concat_edit_Step_l3
    rw [cnd_if, if_pos (by simp only [List.length_cons, List.length_nil]; omega), show gAt [a, b, c] 2 = some c from rfl, bnd_pure, gI_ok (by omega), bnd_pure, cnd_if, if_neg (by omega), gI_ok (by omega), bnd_pure]
    rfl
  · show slices_Concat_edit_Step_l3 [a, b, c] next ((a.length : Int) + (b.length : Int) + (c.length : Int)) 3 = _
    unfold slices_Concat_edit_Step_l3
    rw [cnd_if, if_neg (by simp only [List.length_cons, List.length_nil]; omega)]
    unfold slices_Concat_edit_Step_j1
    rw [gGroC_ok (by omega), bnd_pure]
    refine (fix_goto (F := fun next2 s => slices_Concat_edit_Step_l2 [a, b, c] ((a.length : Int) + (b.length : Int) + (c.length : Int)).toNat next2 s.1 s.2) (1, a) fun next => ?_).trans ((fix_goto (F := fun next2 s => slices_Concat_edit_Step_l2 [a, b, c] ((a.length : Int) + (b.length : Int) + (c.length : Int)).toNat next2 s.1 s.2) (2, a ++ b) fun next => ?_).trans ((fix_goto (F := fun next2 s => slices_Concat_edit_Step_l2 [a, b, c] ((a.length : Int) + (b.length : Int) + (c.length : Int)).toNat next2 s.1 s.2) (3, a ++ b ++ c) fun next => ?_).trans (fix_done fun next => ?_)))
    · show slices_Concat_edit_Step_l2 [a, b, c] ((a.length : Int) + (b.length : Int) + (c.length : Int)).toNat next 0 [] = _
      unfold slices_Concat_edit_Step_l2
      rw [cnd_if, if_pos (by simp only [List.length_cons, List.length_nil]; omega), show gAt [a, b, c] 0 = some a from rfl, bnd_pure, gApC_ok (by simp only [List.length_nil]; omega), bnd_pure, gI_ok (by omega), bnd_pure]
      rfl
    · show slices_Concat_edit_Step_l2 [a, b, c] ((a.length : Int) + (b.length : Int) + (c.length : Int)).toNat next 1 a = _
      unfold slices_Concat_edit_Step_l2
      rw [cnd_if, if_pos (by simp only [List.length_cons, List.length_nil]; omega), show gAt [a, b, c] 1 = some b from rfl, bnd_pure, gApC_ok (by omega), bnd_pure, gI_ok (by omega), bnd_pure]
      rfl
    · show slices_Concat_edit_Step_l2 [a, b, c] ((a.length : Int) + (b.length : Int) + (c.length : Int)).toNat next 2 (a ++ b) = _
      unfold slices_Concat_edit_Step_l2
      rw [cnd_if, if_pos (by simp only [List.length_cons, List.length_nil]; omega), show gAt [a, b, c] 2 = some c from rfl, bnd_pure, gApC_ok (by rw [List.length_append]; omega), bnd_pure, gI_ok (by omega), bnd_pure]
      rfl
    · show slices_Concat_edit_Step_l2 [a, b, c] ((a.length : Int) + (b.length : Int) + (c.length : Int)).toNat next 3 (a ++ b ++ c) = _
      unfold slices_Concat_edit_Step_l2
      rw [cnd_if, if_neg (by simp only [List.length_cons, List.length_nil]; omega)]


end Go.M

/- Turns of turns, in plain Lean. Conditions: none. -/
namespace Go.M
open Go.Md Go.Pl

theorem comp_src {t u : Nat} (ht : 1 ≤ t ∧ t ≤ 8) (hu : 1 ≤ u ∧ u ≤ 8) (w h : Nat) : ∃ k : Nat, (1 ≤ k ∧ k ≤ 8) ∧ turnW u (turnW t w h) (turnH t w h) = turnW k w h ∧ turnH u (turnW t w h) (turnH t w h) = turnH k w h ∧
    ∀ x y : Int, srcS t w h (srcS u (turnW t w h : Nat) (turnH t w h : Nat) x y).1 (srcS u (turnW t w h : Nat) (turnH t w h : Nat) x y).2 = srcS k w h x y := by
  have ht' : t = 1 ∨ t = 2 ∨ t = 3 ∨ t = 4 ∨ t = 5 ∨ t = 6 ∨ t = 7 ∨ t = 8 := by omega
  have hu' : u = 1 ∨ u = 2 ∨ u = 3 ∨ u = 4 ∨ u = 5 ∨ u = 6 ∨ u = 7 ∨ u = 8 := by omega
  rcases ht' with rfl | rfl | rfl | rfl | rfl | rfl | rfl | rfl
  · rcases hu' with rfl | rfl | rfl | rfl | rfl | rfl | rfl | rfl
    · exact ⟨1, by omega, rfl, rfl, fun x y => by simp [srcS, turnW, turnH] <;> omega⟩
    · exact ⟨2, by omega, rfl, rfl, fun x y => by simp [srcS, turnW, turnH] <;> omega⟩
    · exact ⟨3, by omega, rfl, rfl, fun x y => by simp [srcS, turnW, turnH] <;> omega⟩
    · exact ⟨4, by omega, rfl, rfl, fun x y => by simp [srcS, turnW, turnH] <;> omega⟩
    · exact ⟨5, by omega, rfl, rfl, fun x y => by simp [srcS, turnW, turnH] <;> omega⟩
    · exact ⟨6, by omega, rfl, rfl, fun x y => by simp [srcS, turnW, turnH] <;> omega⟩
    · exact ⟨7, by omega, rfl, rfl, fun x y => by simp [srcS, turnW, turnH] <;> omega⟩
    · exact ⟨8, by omega, rfl, rfl, fun x y => by simp [srcS, turnW, turnH] <;> omega⟩
  · rcases hu' with rfl | rfl | rfl | rfl | rfl | rfl | rfl | rfl
    · exact ⟨2, by omega, rfl, rfl, fun x y => by simp [srcS, turnW, turnH] <;> omega⟩
    · exact ⟨1, by omega, rfl, rfl, fun x y => by simp [srcS, turnW, turnH] <;> omega⟩
    · exact ⟨4, by omega, rfl, rfl, fun x y => by simp [srcS, turnW, turnH] <;> omega⟩
    · exact ⟨3, by omega, rfl, rfl, fun x y => by simp [srcS, turnW, turnH] <;> omega⟩
    · exact ⟨8, by omega, rfl, rfl, fun x y => by simp [srcS, turnW, turnH] <;> omega⟩
    · exact ⟨7, by omega, rfl, rfl, fun x y => by simp [srcS, turnW, turnH] <;> omega⟩
    · exact ⟨6, by omega, rfl, rfl, fun x y => by simp [srcS, turnW, turnH] <;> omega⟩
    · exact ⟨5, by omega, rfl, rfl, fun x y => by simp [srcS, turnW, turnH] <;> omega⟩
  · rcases hu' with rfl | rfl | rfl | rfl | rfl | rfl | rfl | rfl
    · exact ⟨3, by omega, rfl, rfl, fun x y => by simp [srcS, turnW, turnH] <;> omega⟩
    · exact ⟨4, by omega, rfl, rfl, fun x y => by simp [srcS, turnW, turnH] <;> omega⟩
    · exact ⟨1, by omega, rfl, rfl, fun x y => by simp [srcS, turnW, turnH] <;> omega⟩
    · exact ⟨2, by omega, rfl, rfl, fun x y => by simp [srcS, turnW, turnH] <;> omega⟩
    · exact ⟨7, by omega, rfl, rfl, fun x y => by simp [srcS, turnW, turnH] <;> omega⟩
    · exact ⟨8, by omega, rfl, rfl, fun x y => by simp [srcS, turnW, turnH] <;> omega⟩
    · exact ⟨5, by omega, rfl, rfl, fun x y => by simp [srcS, turnW, turnH] <;> omega⟩
    · exact ⟨6, by omega, rfl, rfl, fun x y => by simp [srcS, turnW, turnH] <;> omega⟩
  · rcases hu' with rfl | rfl | rfl | rfl | rfl | rfl | rfl | rfl
    · exact ⟨4, by omega, rfl, rfl, fun x y => by simp [srcS, turnW, turnH] <;> omega⟩
    · exact ⟨3, by omega, rfl, rfl, fun x y => by simp [srcS, turnW, turnH] <;> omega⟩
    · exact ⟨2, by omega, rfl, rfl, fun x y => by simp [srcS, turnW, turnH] <;> omega⟩
    · exact ⟨1, by omega, rfl, rfl, fun x y => by simp [srcS, turnW, turnH] <;> omega⟩
    · exact ⟨6, by omega, rfl, rfl, fun x y => by simp [srcS, turnW, turnH] <;> omega⟩
    · exact ⟨5, by omega, rfl, rfl, fun x y => by simp [srcS, turnW, turnH] <;> omega⟩
    · exact ⟨8, by omega, rfl, rfl, fun x y => by simp [srcS, turnW, turnH] <;> omega⟩
    · exact ⟨7, by omega, rfl, rfl, fun x y => by simp [srcS, turnW, turnH] <;> omega⟩
  · rcases hu' with rfl | rfl | rfl | rfl | rfl | rfl | rfl | rfl
    · exact ⟨5, by omega, rfl, rfl, fun x y => by simp [srcS, turnW, turnH] <;> omega⟩
    · exact ⟨6, by omega, rfl, rfl, fun x y => by simp [srcS, turnW, turnH] <;> omega⟩
    · exact ⟨7, by omega, rfl, rfl, fun x y => by simp [srcS, turnW, turnH] <;> omega⟩
    · exact ⟨8, by omega, rfl, rfl, fun x y => by simp [srcS, turnW, turnH] <;> omega⟩
    · exact ⟨1, by omega, rfl, rfl, fun x y => by simp [srcS, turnW, turnH] <;> omega⟩
    · exact ⟨2, by omega, rfl, rfl, fun x y => by simp [srcS, turnW, turnH] <;> omega⟩
    · exact ⟨3, by omega, rfl, rfl, fun x y => by simp [srcS, turnW, turnH] <;> omega⟩
    · exact ⟨4, by omega, rfl, rfl, fun x y => by simp [srcS, turnW, turnH] <;> omega⟩
  · rcases hu' with rfl | rfl | rfl | rfl | rfl | rfl | rfl | rfl
    · exact ⟨6, by omega, rfl, rfl, fun x y => by simp [srcS, turnW, turnH] <;> omega⟩
    · exact ⟨5, by omega, rfl, rfl, fun x y => by simp [srcS, turnW, turnH] <;> omega⟩
    · exact ⟨8, by omega, rfl, rfl, fun x y => by simp [srcS, turnW, turnH] <;> omega⟩
    · exact ⟨7, by omega, rfl, rfl, fun x y => by simp [srcS, turnW, turnH] <;> omega⟩
    · exact ⟨4, by omega, rfl, rfl, fun x y => by simp [srcS, turnW, turnH] <;> omega⟩
    · exact ⟨3, by omega, rfl, rfl, fun x y => by simp [srcS, turnW, turnH] <;> omega⟩
    · exact ⟨2, by omega, rfl, rfl, fun x y => by simp [srcS, turnW, turnH] <;> omega⟩
    · exact ⟨1, by omega, rfl, rfl, fun x y => by simp [srcS, turnW, turnH] <;> omega⟩
  · rcases hu' with rfl | rfl | rfl | rfl | rfl | rfl | rfl | rfl
    · exact ⟨7, by omega, rfl, rfl, fun x y => by simp [srcS, turnW, turnH] <;> omega⟩
    · exact ⟨8, by omega, rfl, rfl, fun x y => by simp [srcS, turnW, turnH] <;> omega⟩
    · exact ⟨5, by omega, rfl, rfl, fun x y => by simp [srcS, turnW, turnH] <;> omega⟩
    · exact ⟨6, by omega, rfl, rfl, fun x y => by simp [srcS, turnW, turnH] <;> omega⟩
    · exact ⟨3, by omega, rfl, rfl, fun x y => by simp [srcS, turnW, turnH] <;> omega⟩
    · exact ⟨4, by omega, rfl, rfl, fun x y => by simp [srcS, turnW, turnH] <;> omega⟩
    · exact ⟨1, by omega, rfl, rfl, fun x y => by simp [srcS, turnW, turnH] <;> omega⟩
    · exact ⟨2, by omega, rfl, rfl, fun x y => by simp [srcS, turnW, turnH] <;> omega⟩
  · rcases hu' with rfl | rfl | rfl | rfl | rfl | rfl | rfl | rfl
    · exact ⟨8, by omega, rfl, rfl, fun x y => by simp [srcS, turnW, turnH] <;> omega⟩
    · exact ⟨7, by omega, rfl, rfl, fun x y => by simp [srcS, turnW, turnH] <;> omega⟩
    · exact ⟨6, by omega, rfl, rfl, fun x y => by simp [srcS, turnW, turnH] <;> omega⟩
    · exact ⟨5, by omega, rfl, rfl, fun x y => by simp [srcS, turnW, turnH] <;> omega⟩
    · exact ⟨2, by omega, rfl, rfl, fun x y => by simp [srcS, turnW, turnH] <;> omega⟩
    · exact ⟨1, by omega, rfl, rfl, fun x y => by simp [srcS, turnW, turnH] <;> omega⟩
    · exact ⟨4, by omega, rfl, rfl, fun x y => by simp [srcS, turnW, turnH] <;> omega⟩
    · exact ⟨3, by omega, rfl, rfl, fun x y => by simp [srcS, turnW, turnH] <;> omega⟩

/-- An image turned. -/
def turnI (t w h : Nat) (l : List Int) : T_api_Image := ⟨turnW t w h, turnH t w h, imgL (turnW t w h) (turnH t w h) (turnPx t w h l)⟩

theorem turn_turn {t u : Nat} (ht : 1 ≤ t ∧ t ≤ 8) (hu : 1 ≤ u ∧ u ≤ 8) {w h : Nat} {l : List Int} (m : Im w h l) : ∃ k : Nat, (1 ≤ k ∧ k ≤ 8) ∧ turnI u (turnW t w h) (turnH t w h) (imgL (turnW t w h) (turnH t w h) (turnPx t w h l)) = turnI k w h l := by
  obtain ⟨k, hk, e1, e2, e3⟩ := comp_src ht hu w h
  refine ⟨k, hk, ?_⟩
  have p : px3 (turnW t w h) (turnH t w h) (turnPx t w h l) := fun x y hx hy => (turnPx_ok m ht hx hy).1
  unfold turnI
  rw [turn_px hu p]
  have : imgL (turnW u (turnW t w h) (turnH t w h)) (turnH u (turnW t w h) (turnH t w h)) (fun x y => turnPx t w h l (srcS u (turnW t w h : Nat) (turnH t w h : Nat) x y).1.toNat (srcS u (turnW t w h : Nat) (turnH t w h : Nat) x y).2.toNat) =
      imgL (turnW u (turnW t w h) (turnH t w h)) (turnH u (turnW t w h) (turnH t w h)) (turnPx k w h l) := img_congr fun x y hx hy => by
    obtain ⟨a, b, e, ha, hb⟩ := srcT hu hx hy
    have := e3 x y
    rw [e] at this
    simp only at this
    unfold turnPx
    rw [e]
    simp only [Int.toNat_natCast]
    rw [this]
  rw [this, e1, e2]

theorem fix_way {α ρ : Type} {F : (α → Option ρ) → α → Option ρ} {o : Option ρ} (st : Nat → α) (n : Nat) (more : ∀ k, k < n → ∀ next, F next (st k) = next (st (k + 1))) (stop : ∀ next, F next (st n) = o) : fix F (st 0) = o := by
  have key : ∀ m, m ≤ n → fix F (st (n - m)) = o := by
    intro m
    induction m with
    | zero => intro _; exact fix_done stop
    | succ m ih =>
      intro h
      rw [fix_goto (b := st (n - (m + 1) + 1)) (more _ (by omega)), show n - (m + 1) + 1 = n - m from by omega]
      exact ih (by omega)
  simpa using key n (Nat.le_refl _)


end Go.M
