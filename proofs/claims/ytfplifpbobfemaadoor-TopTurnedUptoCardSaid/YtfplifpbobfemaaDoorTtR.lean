/- Plain lemmas about tone steps: what they make of bytes and of pixels. Conditions: those that each lemma names. -/
import Derived.Test.YtfplifpbobfemaaDoorTtP
namespace Go.M
open Go.Md Go.Pl

def clampS (n : Int) : Int := min (max n 0) 255
theorem clampS_in (n : Int) : 0 ≤ clampS n ∧ clampS n ≤ 255 := by unfold clampS; omega
theorem clampS_id {n : Int} (h : 0 ≤ n ∧ n ≤ 255) : clampS n = n := by unfold clampS; omega

theorem clamp_eq (n : Int) : edit_clamp n = some (clampS n) := by
  show some (wU8 (clampS n)) = _
  rw [wU8_in (clampS_in n)]
theorem floorQ {a b : Int} (hb : 0 < b) : a / b = a.tdiv b - (if a.tmod b < 0 then 1 else 0) := by
  rw [Int.tdiv_eq_ediv, Int.tmod_eq_emod]
  have h1 := Int.emod_nonneg a (show b ≠ 0 by omega)
  have h2 := Int.emod_lt_of_pos a hb
  have hs : b.sign = 1 := Int.sign_eq_one_of_pos hb
  have hn : (b.natAbs : Int) = b := by omega
  by_cases h : 0 ≤ a ∨ b ∣ a
  · rw [if_pos h, if_pos h]
    rw [if_neg (by omega)]; omega
  · have hne : a % b ≠ 0 := fun h0 => h (.inr (Int.dvd_of_emod_eq_zero h0))
    rw [if_neg h, if_neg h, hs]
    rw [if_pos (by omega)]; omega

theorem edit_floor_eq {a b : Int} (hb : 0 < b) (ha : -9223372036854775000 ≤ a ∧ a ≤ 9223372036854775000) : edit_floor a b = some (a / b) := by
  unfold edit_floor
  have hq := floorQ (a := a) hb
  have h1 := Int.natAbs_tdiv_le_natAbs a b
  rw [gQuo_ok (by omega) (by omega), bnd_pure, gRem_ok (by omega), bnd_pure, cnd_if, gI_ok (by omega), bnd_pure]
  split
  · rename_i h; rw [if_pos h] at hq; rw [hq]
  · rename_i h; rw [if_neg h] at hq; rw [hq]; simp

/-! ### bytes -/

/-- What a tone step makes of a byte, of those that look at single bytes. -/
def toneB (s : T_edit_Step) (v : Int) : Int :=
  if s.Kind = 4 then clampS (v + s.A) else if s.Kind = 5 then clampS (128 + (v - 128) * s.A / 100) else if s.Kind = 6 then clampS ((v - s.A) * 255 / (s.B - s.A)) else 255 - v
/-- It looks at single bytes. -/
def byteK (s : T_edit_Step) : Prop := s.Kind = 4 ∨ s.Kind = 5 ∨ s.Kind = 6 ∨ s.Kind = 9
instance (s : T_edit_Step) : Decidable (byteK s) := by unfold byteK; infer_instance

theorem toneB_in {s : T_edit_Step} {v : Int} (hv : 0 ≤ v ∧ v ≤ 255) : 0 ≤ toneB s v ∧ toneB s v ≤ 255 := by
  unfold toneB
  repeat' split
  · exact clampS_in _
  · exact clampS_in _
  · exact clampS_in _
  · omega

theorem mul_in {x a : Int} (hx : -1000 ≤ x ∧ x ≤ 1000) (ha : -1000 ≤ a ∧ a ≤ 1000) : -1000000 ≤ x * a ∧ x * a ≤ 1000000 := by
  have h1 : (x * a).natAbs = x.natAbs * a.natAbs := Int.natAbs_mul x a
  have h2 : x.natAbs * a.natAbs ≤ 1000 * 1000 := Nat.mul_le_mul (by omega) (by omega)
  omega

theorem ediv_in {x b : Int} (hb : 0 < b) (hx : -1000000 ≤ x ∧ x ≤ 1000000) : -1000000 ≤ x / b ∧ x / b ≤ 1000000 := by
  constructor
  · rw [Int.le_ediv_iff_mul_le hb]
    have : -1000000 * b ≤ -1000000 * 1 := Int.mul_le_mul_of_nonpos_left (by omega) (by omega)
    omega
  · by_cases h0 : 0 ≤ x
    · have := Int.ediv_le_self b h0; omega
    · have := Int.ediv_neg_of_neg_of_pos (show x < 0 by omega) hb; omega

theorem light_eq {s : T_edit_Step} (hs : stepE s = 0) {v : Int} (hv : 0 ≤ v ∧ v ≤ 255) : edit_Step_light s v = some (clampS (v + s.A)) := by
  have hn := stepE_nums hs
  unfold edit_Step_light
  rw [gK_ok (by omega), bnd_pure, gI_ok (by omega), bnd_pure, clamp_eq, bnd_pure]
theorem spread_eq {s : T_edit_Step} (hs : stepE s = 0) {v : Int} (hv : 0 ≤ v ∧ v ≤ 255) : edit_Step_spread s v = some (clampS (128 + (v - 128) * s.A / 100)) := by
  have hn := stepE_nums hs
  have hm := mul_in (x := v - 128) (a := s.A) (by omega) (by omega)
  have hd := ediv_in (x := (v - 128) * s.A) (b := 100) (by omega) hm
  unfold edit_Step_spread
  rw [gK_ok (by omega), bnd_pure, gI_ok (by omega), bnd_pure, gI_ok (by omega), bnd_pure, edit_floor_eq (by omega) (by omega), bnd_pure, gI_ok (by omega), bnd_pure, clamp_eq, bnd_pure]
theorem levels_eq {s : T_edit_Step} (hs : stepE s = 0) (hk : s.Kind = 6) {v : Int} (hv : 0 ≤ v ∧ v ≤ 255) : edit_Step_levels s v = some (clampS ((v - s.A) * 255 / (s.B - s.A))) := by
  have hn := stepE_nums hs
  have hlt := (stepE_ok hs).2.2.2 hk
  have hm := mul_in (x := v - s.A) (a := 255) (by omega) (by omega)
  unfold edit_Step_levels
  rw [gK_ok (by omega), bnd_pure, gI_ok (by omega), bnd_pure, gI_ok (by omega), bnd_pure, gI_ok (by omega), bnd_pure, edit_floor_eq (by omega) (by omega), bnd_pure, clamp_eq, bnd_pure]
theorem invert_eq (s : T_edit_Step) {v : Int} (hv : 0 ≤ v ∧ v ≤ 255) : edit_Step_invert s v = some (255 - v) := by
  unfold edit_Step_invert
  rw [wU8_in (by omega)]

/-- The function of a step that looks at single bytes. -/
theorem byByte_some {s : T_edit_Step} (hs : stepE s = 0) (hk : byteK s) : ∃ g, edit_Step_byByte s = some (some g) ∧ ∀ v, 0 ≤ v ∧ v ≤ 255 → g v = some (toneB s v) := by
  unfold edit_Step_byByte
  simp only [cnd_if]
  rcases hk with h | h | h | h
  · exact ⟨_, if_pos h, fun v hv => by rw [light_eq hs hv]; simp [toneB, h]⟩
  · exact ⟨_, by rw [if_neg (by omega), if_pos h], fun v hv => by rw [spread_eq hs hv]; simp [toneB, h]⟩
  · exact ⟨_, by rw [if_neg (by omega), if_neg (by omega), if_pos h], fun v hv => by rw [levels_eq hs h hv]; simp [toneB, h]⟩
  · exact ⟨_, by rw [if_neg (by omega), if_neg (by omega), if_neg (by omega), if_pos h], fun v hv => by rw [invert_eq s hv]; simp [toneB, h]⟩
theorem byByte_none {s : T_edit_Step} (hk : ¬ byteK s) : edit_Step_byByte s = some none := by
  unfold byteK at hk
  unfold edit_Step_byByte
  simp only [cnd_if]
  rw [if_neg (by omega), if_neg (by omega), if_neg (by omega), if_neg (by omega)]

/-! ### arrays, place by place -/

/-- A loop over all places of an array. -/
theorem fill_loop {ρ : Type} {F : (Int × (Nat → Int) → Option ρ) → Int × (Nat → Int) → Option ρ} (n : Nat) (g : Nat → Int) (J : (Nat → Int) → Option ρ)
    (step : ∀ (next : Int × (Nat → Int) → Option ρ) (k : Nat) (m : Nat → Int), k < n → F next ((k : Int), m) = next ((k : Int) + 1, setA m k (g k)))
    (last : ∀ next m, F next ((n : Int), m) = J m) (m0 : Nat → Int) : fix F (0, m0) = J (fun j => if j < n then g j else m0 j) := by
  have key := up2 (F := F) n (fun _ _ => J (fun j => if j < n then g j else m0 j)) (fun k m => ∀ j, m j = if j < k then g j else m0 j) (by
    intro next k m hk hm ih
    by_cases h : k < n
    · rw [step next k m h]
      refine ih _ h fun j => ?_
      unfold setA
      by_cases hj : j = k
      · subst hj; rw [if_pos rfl, if_pos (by omega)]
      · rw [if_neg hj, hm j]
        by_cases h1 : j < k
        · rw [if_pos h1, if_pos (by omega)]
        · rw [if_neg h1, if_neg (by omega)]
    · have : k = n := by omega
      subst this
      rw [last]
      congr 1
      funext j; exact hm j) m0 (fun j => by simp)
  exact key

def byteArr (n : Nat) (c : Nat → Int) : Prop := ∀ j, j < n → 0 ≤ c j ∧ c j ≤ 255

/-- What becomes of a byte. -/
def byteFold (l : List T_edit_Step) (v : Int) : Int := l.foldl (fun v s => toneB s v) v

theorem byteFold_in : ∀ (l : List T_edit_Step) {v : Int}, 0 ≤ v ∧ v ≤ 255 → 0 ≤ byteFold l v ∧ byteFold l v ≤ 255
  | [], _, h => h
  | s :: r, _, h => byteFold_in r (toneB_in h)

/-! ### pixels -/

/-- What a tone step makes of a colour of a pixel. -/
def dotS (s : T_edit_Step) (p : Nat → Int) (j : Nat) : Int :=
  if s.Kind = 7 then clampS (p j + (if j = 0 then s.A else if j = 1 then 0 else -s.A))
  else if s.Kind = 8 then clampS (p j + ((77 * p 0 + 150 * p 1 + 29 * p 2) / 256 - p j) * s.A / 100)
  else if byteK s then toneB s (p j) else clampS (p j)
def dotA (s : T_edit_Step) (p : Nat → Int) (j : Nat) : Int := if j < 3 then dotS s p j else p j

theorem dotS_in {s : T_edit_Step} {p : Nat → Int} {j : Nat} (h : 0 ≤ p j ∧ p j ≤ 255) : 0 ≤ dotS s p j ∧ dotS s p j ≤ 255 := by
  unfold dotS
  repeat' split
  all_goals first | exact clampS_in _ | exact toneB_in h

theorem dotA_byte {s : T_edit_Step} {p : Nat → Int} (h : byteArr 3 p) : byteArr 3 (dotA s p) := fun j hj => by
  unfold dotA; rw [if_pos hj]; exact dotS_in (h j hj)

/-- What the program makes of a pixel is the same in its three colours. -/
theorem byPixel_eq {s : T_edit_Step} (hs : stepE s = 0) (hk : ¬ (1 ≤ s.Kind ∧ s.Kind ≤ 3)) : ∃ g, edit_Step_byPixel s = some (some g) ∧ ∀ p, byteArr 3 p → ∃ q, g p = some q ∧ ∀ j, j < 3 → q j = dotS s p j := by
  have hn := stepE_nums hs
  have hkk := (stepE_ok hs).1
  unfold edit_Step_byPixel
  simp only [cnd_if]
  by_cases h7 : s.Kind = 7
  · refine ⟨_, if_pos h7, fun p hp => ?_⟩
    have p0 := hp 0 (by omega)
    have p1 := hp 1 (by omega)
    have p2 := hp 2 (by omega)
    unfold edit_Step_warm
    rw [gK_ok (by omega), bnd_pure, gI_ok (by omega), bnd_pure, clamp_eq, bnd_pure, gK_ok (by omega), bnd_pure, gI_ok (by omega), bnd_pure, clamp_eq, bnd_pure]
    refine ⟨_, rfl, fun j hj => ?_⟩
    have : j = 0 ∨ j = 1 ∨ j = 2 := by omega
    rcases this with rfl | rfl | rfl
    · simp [dotS, h7, ofL]
    · simp [dotS, h7, ofL, clampS_id p1]
    · simp [dotS, h7, ofL, Int.sub_eq_add_neg]
  · rw [if_neg h7]
    by_cases h8 : s.Kind = 8
    · refine ⟨_, if_pos h8, fun p hp => ?_⟩
      have p0 := hp 0 (by omega)
      have p1 := hp 1 (by omega)
      have p2 := hp 2 (by omega)
      unfold edit_Step_mute
      rw [gK_ok (by omega), bnd_pure, gI_ok (by omega), bnd_pure, gK_ok (by omega), bnd_pure, gI_ok (by omega), bnd_pure, gI_ok (by omega), bnd_pure, gK_ok (by omega), bnd_pure, gI_ok (by omega), bnd_pure, gI_ok (by omega), bnd_pure, gQuo_nn (by omega) (by omega), bnd_pure]
      refine ⟨fun j => if j < 3 then dotS s p j else p j, ?_, fun j hj => by simp [hj]⟩
      refine fill_loop 3 (dotS s p) (fun m => some m) (fun next k m hk => ?_) (fun next m => ?_) p
      · show edit_Step_mute_l2 s p _ next k m = _
        unfold edit_Step_mute_l2
        have pk := hp k hk
        generalize hG : (77 * p 0 + 150 * p 1 + 29 * p 2) / 256 = G at *
        have hGb : 0 ≤ G ∧ G ≤ 255 := by omega
        have hm8 := mul_in (x := G - p k) (a := s.A) (by omega) (by omega)
        have hd8 := ediv_in (x := (G - p k) * s.A) (b := 100) (by omega) hm8
        rw [cnd_if, if_pos (by omega), gIx_nat hk, bnd_pure, gK_ok (by omega), bnd_pure, bnd_pure, gI_ok (by omega), bnd_pure, gI_ok (by omega), bnd_pure, edit_floor_eq (by omega) (by omega), bnd_pure, gI_ok (by omega), bnd_pure, clamp_eq, bnd_pure, bnd_pure, gI_ok (by omega), bnd_pure]
        simp [dotS, h8, hG]
      · show edit_Step_mute_l2 s p _ next 3 m = _
        unfold edit_Step_mute_l2
        rw [cnd_if, if_neg (by omega)]; rfl
    · have hb : byteK s := by unfold byteK; omega
      refine ⟨_, if_neg h8, fun p hp => ?_⟩
      obtain ⟨g, h1, h2⟩ := byByte_some hs hb
      unfold edit_Step_eachByte
      rw [h1, bnd_pure]
      refine ⟨fun j => if j < 3 then dotS s p j else p j, ?_, fun j hj => by simp [hj]⟩
      refine fill_loop 3 (dotS s p) (fun m => some m) (fun next k m hk => ?_) (fun next m => ?_) p
      · show edit_Step_eachByte_l2 p (some g) next k m = _
        unfold edit_Step_eachByte_l2 gFn
        rw [cnd_if, if_pos (by omega), gIx_nat hk, bnd_pure, bnd_pure, h2 _ (hp k hk), bnd_pure, bnd_pure, gI_ok (by omega), bnd_pure]
        simp [dotS, h7, h8, hb]
      · show edit_Step_eachByte_l2 p (some g) next 3 m = _
        unfold edit_Step_eachByte_l2
        rw [cnd_if, if_neg (by omega)]; rfl

end Go.M
