/- Rules that shorten recipes: what each makes of an image, in plain Lean. Conditions: none. -/
import Derived.Test.YtllnhnnpmmnomaaTsT
namespace Go.M
open Go.Md Go.Pl

/-! ### steps that leave an image as it is -/

def neutralS (s : T_edit_Step) (a b : Int) : Bool :=
  if s.Kind = 1 then decide (s.A = 1) else if s.Kind = 2 then eq_edit_Step s ⟨2, 0, 0, a, b⟩ else if s.Kind = 3 then decide (s.A = a ∧ s.B = b) else if s.Kind = 7 ∨ s.Kind = 8 then decide (s.A = 0) else decide (∀ j : Fin 256, toneB s ((j : Nat) : Int) = ((j : Nat) : Int))

theorem scale_same {w h : Nat} {l : List Int} (m : Im w h l) {x y : Nat} (hx : x < w) (hy : y < h) : scalePx w h l w h x y = pxN w l x y := by
  have hv : ∀ c, c < 3 → scaleV w h l w h x y c = colS w h l c x y := by
    intro c hc
    have h1 : ∀ j, sumR (fun i => colS w h l c (i / w) j) (w * x) w = colS w h l c x j * w := fun j => sumR_const fun i h1 h2 => by
      have : i / w = x := by
        rw [Nat.div_eq_of_lt_le]
        · rw [Nat.mul_comm]; exact h1
        · rw [Nat.mul_comm, Nat.mul_succ]; exact h2
      rw [this]
    have h2 : sumS w h l w h x y c = colS w h l c x y * w * h := by
      unfold sumS
      exact sumR_const fun j g1 g2 => by
        have : j / h = y := by
          rw [Nat.div_eq_of_lt_le]
          · rw [Nat.mul_comm]; exact g1
          · rw [Nat.mul_comm, Nat.mul_succ]; exact g2
        rw [this]; exact h1 y
    have hb := colS_in m (c := c) hx hy
    have hp := m.pos
    unfold scaleV
    rw [h2, Int.mul_assoc, ← Int.natCast_mul]
    generalize colS w h l c x y = v at hb ⊢
    generalize w * h = n at hp ⊢
    have e : (2 * (v * (n : Int)) + (n : Int)) / (2 * (n : Int)) = v := by
      rw [show 2 * (v * (n : Int)) + (n : Int) = (n : Int) + v * (2 * (n : Int)) from by rw [Int.add_comm, ← Int.mul_assoc, ← Int.mul_assoc, Int.mul_comm 2 v]]
      rw [Int.add_mul_ediv_right _ _ (by omega), Int.ediv_eq_zero_of_lt (by omega) (by omega), Int.zero_add]
    rw [e]; unfold wU8; omega
  have hl := pxN_len m hx hy
  unfold scalePx
  rw [hv 0 (by omega), hv 1 (by omega), hv 2 (by omega)]
  unfold colS
  match hq : pxN w l x y, hl with
  | [a, b, c], _ => rfl

theorem tone_same {s : T_edit_Step} {w h : Nat} {l : List Int} (m : Im w h l) (hd : ∀ p : Nat → Int, byteArr 3 p → ∀ j, j < 3 → dotS s p j = p j) : toneP s l (w * h) = l := by
  have e0 := img_self m
  have e1 : toneP s (imgL w h (pxN w l)) (w * h) = imgL w h (fun x y => tone1 s (pxN w l x y)) := tone_img (px3_im m)
  rw [e0] at e1
  rw [e1]
  refine Eq.trans (img_congr fun x y hx hy => ?_) e0
  have hl := pxN_len m hx hy
  have hb := pxN_byte m (a := x) (b := y)
  match hq : pxN w l x y, hl with
  | [a, b, c], _ =>
    rw [hq] at hb
    have h3 : byteArr 3 (ofL [a, b, c]) := fun j hj => by
      have : j = 0 ∨ j = 1 ∨ j = 2 := by omega
      rcases this with rfl | rfl | rfl
      · exact hb a (by simp)
      · exact hb b (by simp)
      · exact hb c (by simp)
    unfold tone1
    rw [hd _ h3 0 (by omega), hd _ h3 1 (by omega), hd _ h3 2 (by omega)]
    rfl

theorem neutral_step {s : T_edit_Step} (hs : stepE s = 0) {w h : Nat} {l : List Int} (m : Im w h l) (hn : neutralS s w h = true) : stepI s ⟨w, h, l⟩ = ⟨w, h, l⟩ := by
  have hk := (stepE_ok hs).1
  unfold neutralS at hn
  by_cases h1 : s.Kind = 1
  · rw [if_pos h1, decide_eq_true_iff] at hn
    rw [step1 h1, hn]
    show (⟨(w : Int), (h : Int), imgL w h (turnPx 1 w h l)⟩ : T_api_Image) = _
    rw [turn_one m]
  rw [if_neg h1] at hn
  by_cases h2 : s.Kind = 2
  · rw [if_pos h2] at hn
    unfold eq_edit_Step at hn
    rw [decide_eq_true_iff] at hn
    obtain ⟨_, hA, hB, hC, hD⟩ := hn
    simp only at hA hB hC hD
    rw [step2 h2, hA, hB, hC, hD]
    show (⟨(w : Int), (h : Int), imgL w h (cropPx w l 0 0)⟩ : T_api_Image) = _
    have : imgL w h (cropPx w l 0 0) = imgL w h (pxN w l) := img_congr fun x y _ _ => by unfold cropPx; rw [Nat.zero_add, Nat.zero_add]
    rw [this, img_self m]
  rw [if_neg h2] at hn
  by_cases h3 : s.Kind = 3
  · rw [if_pos h3, decide_eq_true_iff] at hn
    rw [step3 h3, hn.1, hn.2]
    show (⟨(w : Int), (h : Int), imgL w h (scalePx w h l w h)⟩ : T_api_Image) = _
    rw [img_congr fun x y hx hy => scale_same m hx hy, img_self m]
  rw [if_neg h3] at hn
  rw [step4 (by omega)]
  congr 1
  refine tone_same m fun p hp j hj => ?_
  have hb := hp j hj
  by_cases h78 : s.Kind = 7 ∨ s.Kind = 8
  · rw [if_pos h78, decide_eq_true_iff] at hn
    unfold dotS
    rcases h78 with h7 | h8
    · rw [if_pos h7, hn]
      have : (if j = 0 then (0 : Int) else if j = 1 then 0 else -0) = 0 := by simp only [Int.neg_zero, ite_self]
      rw [this, Int.add_zero, clampS_id hb]
    · rw [if_neg (by omega), if_pos h8, hn, Int.mul_zero, Int.zero_ediv, Int.add_zero, clampS_id hb]
  · rw [if_neg h78, decide_eq_true_iff] at hn
    have hby : byteK s := by unfold byteK; omega
    unfold dotS
    rw [if_neg (by omega), if_neg (by omega), if_pos hby]
    have := hn ⟨(p j).toNat, by omega⟩
    simp only at this
    rwa [Int.toNat_of_nonneg hb.1] at this
end Go.M

/- Turns joined, crops joined, a turn before a crop, in plain Lean. Conditions: none. -/
namespace Go.M
open Go.Md Go.Pl

/-! ### turns -/

theorem comp_all {t u : Nat} (ht : 1 ≤ t ∧ t ≤ 8) (hu : 1 ≤ u ∧ u ≤ 8) : ∃ k : Nat, (1 ≤ k ∧ k ≤ 8) ∧ ∀ w h : Nat, turnW u (turnW t w h) (turnH t w h) = turnW k w h ∧ turnH u (turnW t w h) (turnH t w h) = turnH k w h ∧
    ∀ x y : Int, srcS t w h (srcS u (turnW t w h : Nat) (turnH t w h : Nat) x y).1 (srcS u (turnW t w h : Nat) (turnH t w h : Nat) x y).2 = srcS k w h x y := by
  have ht' : t = 1 ∨ t = 2 ∨ t = 3 ∨ t = 4 ∨ t = 5 ∨ t = 6 ∨ t = 7 ∨ t = 8 := by omega
  have hu' : u = 1 ∨ u = 2 ∨ u = 3 ∨ u = 4 ∨ u = 5 ∨ u = 6 ∨ u = 7 ∨ u = 8 := by omega
  rcases ht' with rfl | rfl | rfl | rfl | rfl | rfl | rfl | rfl
  · rcases hu' with rfl | rfl | rfl | rfl | rfl | rfl | rfl | rfl
    · exact ⟨1, by omega, fun w h => ⟨rfl, rfl, fun x y => by simp [srcS, turnW, turnH] <;> omega⟩⟩
    · exact ⟨2, by omega, fun w h => ⟨rfl, rfl, fun x y => by simp [srcS, turnW, turnH] <;> omega⟩⟩
    · exact ⟨3, by omega, fun w h => ⟨rfl, rfl, fun x y => by simp [srcS, turnW, turnH] <;> omega⟩⟩
    · exact ⟨4, by omega, fun w h => ⟨rfl, rfl, fun x y => by simp [srcS, turnW, turnH] <;> omega⟩⟩
    · exact ⟨5, by omega, fun w h => ⟨rfl, rfl, fun x y => by simp [srcS, turnW, turnH] <;> omega⟩⟩
    · exact ⟨6, by omega, fun w h => ⟨rfl, rfl, fun x y => by simp [srcS, turnW, turnH] <;> omega⟩⟩
    · exact ⟨7, by omega, fun w h => ⟨rfl, rfl, fun x y => by simp [srcS, turnW, turnH] <;> omega⟩⟩
    · exact ⟨8, by omega, fun w h => ⟨rfl, rfl, fun x y => by simp [srcS, turnW, turnH] <;> omega⟩⟩
  · rcases hu' with rfl | rfl | rfl | rfl | rfl | rfl | rfl | rfl
    · exact ⟨2, by omega, fun w h => ⟨rfl, rfl, fun x y => by simp [srcS, turnW, turnH] <;> omega⟩⟩
    · exact ⟨1, by omega, fun w h => ⟨rfl, rfl, fun x y => by simp [srcS, turnW, turnH] <;> omega⟩⟩
    · exact ⟨4, by omega, fun w h => ⟨rfl, rfl, fun x y => by simp [srcS, turnW, turnH] <;> omega⟩⟩
    · exact ⟨3, by omega, fun w h => ⟨rfl, rfl, fun x y => by simp [srcS, turnW, turnH] <;> omega⟩⟩
    · exact ⟨8, by omega, fun w h => ⟨rfl, rfl, fun x y => by simp [srcS, turnW, turnH] <;> omega⟩⟩
    · exact ⟨7, by omega, fun w h => ⟨rfl, rfl, fun x y => by simp [srcS, turnW, turnH] <;> omega⟩⟩
    · exact ⟨6, by omega, fun w h => ⟨rfl, rfl, fun x y => by simp [srcS, turnW, turnH] <;> omega⟩⟩
    · exact ⟨5, by omega, fun w h => ⟨rfl, rfl, fun x y => by simp [srcS, turnW, turnH] <;> omega⟩⟩
  · rcases hu' with rfl | rfl | rfl | rfl | rfl | rfl | rfl | rfl
    · exact ⟨3, by omega, fun w h => ⟨rfl, rfl, fun x y => by simp [srcS, turnW, turnH] <;> omega⟩⟩
    · exact ⟨4, by omega, fun w h => ⟨rfl, rfl, fun x y => by simp [srcS, turnW, turnH] <;> omega⟩⟩
    · exact ⟨1, by omega, fun w h => ⟨rfl, rfl, fun x y => by simp [srcS, turnW, turnH] <;> omega⟩⟩
    · exact ⟨2, by omega, fun w h => ⟨rfl, rfl, fun x y => by simp [srcS, turnW, turnH] <;> omega⟩⟩
    · exact ⟨7, by omega, fun w h => ⟨rfl, rfl, fun x y => by simp [srcS, turnW, turnH] <;> omega⟩⟩
    · exact ⟨8, by omega, fun w h => ⟨rfl, rfl, fun x y => by simp [srcS, turnW, turnH] <;> omega⟩⟩
    · exact ⟨5, by omega, fun w h => ⟨rfl, rfl, fun x y => by simp [srcS, turnW, turnH] <;> omega⟩⟩
    · exact ⟨6, by omega, fun w h => ⟨rfl, rfl, fun x y => by simp [srcS, turnW, turnH] <;> omega⟩⟩
  · rcases hu' with rfl | rfl | rfl | rfl | rfl | rfl | rfl | rfl
    · exact ⟨4, by omega, fun w h => ⟨rfl, rfl, fun x y => by simp [srcS, turnW, turnH] <;> omega⟩⟩
    · exact ⟨3, by omega, fun w h => ⟨rfl, rfl, fun x y => by simp [srcS, turnW, turnH] <;> omega⟩⟩
    · exact ⟨2, by omega, fun w h => ⟨rfl, rfl, fun x y => by simp [srcS, turnW, turnH] <;> omega⟩⟩
    · exact ⟨1, by omega, fun w h => ⟨rfl, rfl, fun x y => by simp [srcS, turnW, turnH] <;> omega⟩⟩
    · exact ⟨6, by omega, fun w h => ⟨rfl, rfl, fun x y => by simp [srcS, turnW, turnH] <;> omega⟩⟩
    · exact ⟨5, by omega, fun w h => ⟨rfl, rfl, fun x y => by simp [srcS, turnW, turnH] <;> omega⟩⟩
    · exact ⟨8, by omega, fun w h => ⟨rfl, rfl, fun x y => by simp [srcS, turnW, turnH] <;> omega⟩⟩
    · exact ⟨7, by omega, fun w h => ⟨rfl, rfl, fun x y => by simp [srcS, turnW, turnH] <;> omega⟩⟩
  · rcases hu' with rfl | rfl | rfl | rfl | rfl | rfl | rfl | rfl
    · exact ⟨5, by omega, fun w h => ⟨rfl, rfl, fun x y => by simp [srcS, turnW, turnH] <;> omega⟩⟩
    · exact ⟨6, by omega, fun w h => ⟨rfl, rfl, fun x y => by simp [srcS, turnW, turnH] <;> omega⟩⟩
    · exact ⟨7, by omega, fun w h => ⟨rfl, rfl, fun x y => by simp [srcS, turnW, turnH] <;> omega⟩⟩
    · exact ⟨8, by omega, fun w h => ⟨rfl, rfl, fun x y => by simp [srcS, turnW, turnH] <;> omega⟩⟩
    · exact ⟨1, by omega, fun w h => ⟨rfl, rfl, fun x y => by simp [srcS, turnW, turnH] <;> omega⟩⟩
    · exact ⟨2, by omega, fun w h => ⟨rfl, rfl, fun x y => by simp [srcS, turnW, turnH] <;> omega⟩⟩
    · exact ⟨3, by omega, fun w h => ⟨rfl, rfl, fun x y => by simp [srcS, turnW, turnH] <;> omega⟩⟩
    · exact ⟨4, by omega, fun w h => ⟨rfl, rfl, fun x y => by simp [srcS, turnW, turnH] <;> omega⟩⟩
  · rcases hu' with rfl | rfl | rfl | rfl | rfl | rfl | rfl | rfl
    · exact ⟨6, by omega, fun w h => ⟨rfl, rfl, fun x y => by simp [srcS, turnW, turnH] <;> omega⟩⟩
    · exact ⟨5, by omega, fun w h => ⟨rfl, rfl, fun x y => by simp [srcS, turnW, turnH] <;> omega⟩⟩
    · exact ⟨8, by omega, fun w h => ⟨rfl, rfl, fun x y => by simp [srcS, turnW, turnH] <;> omega⟩⟩
    · exact ⟨7, by omega, fun w h => ⟨rfl, rfl, fun x y => by simp [srcS, turnW, turnH] <;> omega⟩⟩
    · exact ⟨4, by omega, fun w h => ⟨rfl, rfl, fun x y => by simp [srcS, turnW, turnH] <;> omega⟩⟩
    · exact ⟨3, by omega, fun w h => ⟨rfl, rfl, fun x y => by simp [srcS, turnW, turnH] <;> omega⟩⟩
    · exact ⟨2, by omega, fun w h => ⟨rfl, rfl, fun x y => by simp [srcS, turnW, turnH] <;> omega⟩⟩
    · exact ⟨1, by omega, fun w h => ⟨rfl, rfl, fun x y => by simp [srcS, turnW, turnH] <;> omega⟩⟩
  · rcases hu' with rfl | rfl | rfl | rfl | rfl | rfl | rfl | rfl
    · exact ⟨7, by omega, fun w h => ⟨rfl, rfl, fun x y => by simp [srcS, turnW, turnH] <;> omega⟩⟩
    · exact ⟨8, by omega, fun w h => ⟨rfl, rfl, fun x y => by simp [srcS, turnW, turnH] <;> omega⟩⟩
    · exact ⟨5, by omega, fun w h => ⟨rfl, rfl, fun x y => by simp [srcS, turnW, turnH] <;> omega⟩⟩
    · exact ⟨6, by omega, fun w h => ⟨rfl, rfl, fun x y => by simp [srcS, turnW, turnH] <;> omega⟩⟩
    · exact ⟨3, by omega, fun w h => ⟨rfl, rfl, fun x y => by simp [srcS, turnW, turnH] <;> omega⟩⟩
    · exact ⟨4, by omega, fun w h => ⟨rfl, rfl, fun x y => by simp [srcS, turnW, turnH] <;> omega⟩⟩
    · exact ⟨1, by omega, fun w h => ⟨rfl, rfl, fun x y => by simp [srcS, turnW, turnH] <;> omega⟩⟩
    · exact ⟨2, by omega, fun w h => ⟨rfl, rfl, fun x y => by simp [srcS, turnW, turnH] <;> omega⟩⟩
  · rcases hu' with rfl | rfl | rfl | rfl | rfl | rfl | rfl | rfl
    · exact ⟨8, by omega, fun w h => ⟨rfl, rfl, fun x y => by simp [srcS, turnW, turnH] <;> omega⟩⟩
    · exact ⟨7, by omega, fun w h => ⟨rfl, rfl, fun x y => by simp [srcS, turnW, turnH] <;> omega⟩⟩
    · exact ⟨6, by omega, fun w h => ⟨rfl, rfl, fun x y => by simp [srcS, turnW, turnH] <;> omega⟩⟩
    · exact ⟨5, by omega, fun w h => ⟨rfl, rfl, fun x y => by simp [srcS, turnW, turnH] <;> omega⟩⟩
    · exact ⟨2, by omega, fun w h => ⟨rfl, rfl, fun x y => by simp [srcS, turnW, turnH] <;> omega⟩⟩
    · exact ⟨1, by omega, fun w h => ⟨rfl, rfl, fun x y => by simp [srcS, turnW, turnH] <;> omega⟩⟩
    · exact ⟨4, by omega, fun w h => ⟨rfl, rfl, fun x y => by simp [srcS, turnW, turnH] <;> omega⟩⟩
    · exact ⟨3, by omega, fun w h => ⟨rfl, rfl, fun x y => by simp [srcS, turnW, turnH] <;> omega⟩⟩

theorem comp_img {t u k : Nat} (ht : 1 ≤ t ∧ t ≤ 8) (hu : 1 ≤ u ∧ u ≤ 8) {w h : Nat} (hk : turnW u (turnW t w h) (turnH t w h) = turnW k w h ∧ turnH u (turnW t w h) (turnH t w h) = turnH k w h ∧
    ∀ x y : Int, srcS t w h (srcS u (turnW t w h : Nat) (turnH t w h : Nat) x y).1 (srcS u (turnW t w h : Nat) (turnH t w h : Nat) x y).2 = srcS k w h x y) {l : List Int} (m : Im w h l) :
    turnI u (turnW t w h) (turnH t w h) (imgL (turnW t w h) (turnH t w h) (turnPx t w h l)) = turnI k w h l := by
  obtain ⟨e1, e2, e3⟩ := hk
  have p : px3 (turnW t w h) (turnH t w h) (turnPx t w h l) := fun x y hx hy => (turnPx_ok m ht hx hy).1
  unfold turnI
  rw [turn_px hu p]
  have : imgL (turnW u (turnW t w h) (turnH t w h)) (turnH u (turnW t w h) (turnH t w h)) (fun x y => turnPx t w h l (srcS u (turnW t w h : Nat) (turnH t w h : Nat) x y).1.toNat (srcS u (turnW t w h : Nat) (turnH t w h : Nat) x y).2.toNat) =
      imgL (turnW u (turnW t w h) (turnH t w h)) (turnH u (turnW t w h) (turnH t w h)) (turnPx k w h l) := img_congr fun x y hx hy => by
    obtain ⟨a, b, e, ha, hb⟩ := srcT hu hx hy
    have := e3 x y
    rw [e] at this
    simp only at this
    unfold turnPx
    rw [e]
    simp only [Int.toNat_natCast]
    rw [this]
  rw [this, e1, e2]

/-! ### the sample that tells turns apart -/

def smpL : List Int := [0, 1, 2, 3, 4, 5, 6, 7, 8, 9, 10, 11, 12, 13, 14, 15, 16, 17]
theorem smp_im : Im 2 3 smpL := ⟨by decide, by decide, by decide, by decide, by decide, by decide⟩
def smpK (k : Nat) : List Int := (List.range 18).map fun i : Nat => if i < k then (i : Int) else 0
theorem smpK_len (k : Nat) : (smpK k).length = 18 := by unfold smpK; simp
theorem smpK_at (k : Nat) {i : Nat} (hi : i < 18) : (smpK k)[i]? = some (if i < k then (i : Int) else 0) := by
  unfold smpK
  rw [List.getElem?_map, List.getElem?_range hi]; rfl
theorem smpK_set {k : Nat} (hk : k < 18) : (smpK k).set k (wU8 (k : Int)) = smpK (k + 1) := by
  refine List.ext_getElem? fun i => ?_
  rw [List.getElem?_set, smpK_len, if_pos hk]
  rcases Nat.lt_or_ge i 18 with hi | hi
  · rw [smpK_at _ hi, smpK_at _ hi]
    by_cases h : k = i
    · subst h; rw [if_pos rfl, if_pos (by omega)]; congr 1; unfold wU8; omega
    · rw [if_neg h]
      by_cases h' : i < k
      · rw [if_pos h', if_pos (by omega)]
      · rw [if_neg h', if_neg (by omega)]
  · rw [if_neg (by omega), List.getElem?_eq_none (by rw [smpK_len]; exact hi), List.getElem?_eq_none (by rw [smpK_len]; exact hi)]
theorem smp_eq : pix_sample = some ⟨(2 : Nat), (3 : Nat), smpL⟩ := by
  unfold pix_sample
  have hb := blank_eq (w := 2) (h := 3) (by decide) (by decide) (fun _ _ => [0, 0, 0])
  rw [show ((2 : Nat) : Int) = 2 from rfl, show ((3 : Nat) : Int) = 3 from rfl] at hb
  rw [hb, bnd_pure]
  have e0 : fill3 2 3 (fun _ _ => [0, 0, 0]) 0 = smpK 0 := by decide
  have e1 : smpL = smpK 18 := by decide
  rw [e0, e1]
  simp only [smpK_len]
  refine fix_way (F := fun next2 s => pix_sample_l2 ⟨2, 3, smpK 0⟩ next2 s.1 s.2.1 s.2.2) (fun k => (((18 : Nat) : Int), (k : Int), smpK k)) 18 (fun k hk next => ?_) (fun next => ?_)
  · show pix_sample_l2 _ next _ (k : Int) (smpK k) = _
    have hl := smpK_len k
    unfold pix_sample_l2
    rw [cnd_if, if_pos (by omega), gAt_nat (by omega), bnd_pure, gSet_ok (by omega) (by omega), bnd_pure, gI_ok (by omega), bnd_pure, Int.toNat_natCast, smpK_set hk]; rfl
  · show pix_sample_l2 _ next ((18 : Nat) : Int) ((18 : Nat) : Int) (smpK 18) = _
    unfold pix_sample_l2
    rw [cnd_if, if_neg (by omega)]; rfl

def sameT (i k : Nat) : Bool := decide (turnW i 2 3 = turnW k 2 3 ∧ turnH i 2 3 = turnH k 2 3 ∧ imgL (turnW i 2 3) (turnH i 2 3) (turnPx i 2 3 smpL) = imgL (turnW k 2 3) (turnH k 2 3) (turnPx k 2 3 smpL))
theorem smp_apart : ((List.range 9).all fun i => (List.range 9).all fun k => decide (i = 0) || decide (k = 0) || decide (i = k) || !sameT i k) = true := by decide +kernel
theorem smp_ne {i k : Nat} (hi : 1 ≤ i ∧ i ≤ 8) (hk : 1 ≤ k ∧ k ≤ 8) (h : i ≠ k) : sameT i k = false := by
  have h1 := List.all_eq_true.1 smp_apart i (List.mem_range.2 (by omega))
  have h2 := List.all_eq_true.1 h1 k (List.mem_range.2 (by omega))
  simpa [h, show i ≠ 0 from by omega, show k ≠ 0 from by omega] using h2

theorem eqB_ex (a b : List Int) (hl : a.length ≤ 1000000) : slices_Equal_byte a b = some (decide (a = b)) := by
  unfold slices_Equal_byte
  by_cases hn : a.length = b.length
  · rw [cnd_if, if_neg (by omega)]
    have key : ∀ n k, n + k = a.length → (∀ i, i < k → a[i]? = b[i]?) → fix (fun next1 s => slices_Equal_byte_l1 a b next1 s) (k : Int) = some (decide (a = b)) := by
      intro n
      induction n with
      | zero =>
        intro k hk hp
        have e : a = b := List.ext_getElem? fun i => by
          rcases Nat.lt_or_ge i k with h | h
          · exact hp i h
          · rw [List.getElem?_eq_none (by omega), List.getElem?_eq_none (by omega)]
        refine fix_done fun next => ?_
        unfold slices_Equal_byte_l1
        rw [cnd_if, if_neg (by omega), decide_eq_true e]
      | succ n ih =>
        intro k hk hp
        have h1 : k < a.length := by omega
        by_cases he : a[k] = b[k]'(by omega)
        · refine (fix_goto (((k + 1 : Nat) : Int)) fun next => ?_).trans (ih (k + 1) (by omega) fun i hi => ?_)
          · unfold slices_Equal_byte_l1
            rw [cnd_if, if_pos (by omega), gAt_nat h1, bnd_pure, gAt_nat (by omega), bnd_pure, cnd_if, if_neg (fun h => h he), gI_ok (by omega), bnd_pure]; rfl
          · rcases Nat.lt_or_ge i k with h | h
            · exact hp i h
            · have : i = k := by omega
              subst this
              rw [List.getElem?_eq_getElem h1, List.getElem?_eq_getElem (by omega), he]
        · refine fix_done fun next => ?_
          unfold slices_Equal_byte_l1
          rw [cnd_if, if_pos (by omega), gAt_nat h1, bnd_pure, gAt_nat (by omega), bnd_pure, cnd_if, if_pos he, decide_eq_false]
          intro e; subst e; exact he rfl
    exact key a.length 0 (by omega) (fun i hi => by omega)
  · rw [cnd_if, if_pos (by omega), decide_eq_false (fun e => hn (by rw [e]))]

theorem Same_turn (i k : Nat) : pix_Same (turnI i 2 3 smpL) (turnI k 2 3 smpL) = some (sameT i k) := by
  unfold pix_Same turnI sameT
  simp only
  have hl : (imgL (turnW i 2 3) (turnH i 2 3) (turnPx i 2 3 smpL)).length ≤ 1000000 := by
    unfold imgL pre3
    rw [List.length_flatMap]
    have : (turnW i 2 3 * turnH i 2 3) = 6 := by rw [turn_area]
    rw [this]
    have hp : ∀ a b, (turnPx i 2 3 smpL a b).length ≤ 3 := fun a b => by unfold turnPx pxN; rw [List.length_take]; omega
    simp only [List.range, List.range.loop, List.map_cons, List.map_nil, List.sum_cons, List.sum_nil]
    have h0 := hp (0 % turnW i 2 3) (0 / turnW i 2 3); have h1 := hp (1 % turnW i 2 3) (1 / turnW i 2 3); have h2 := hp (2 % turnW i 2 3) (2 / turnW i 2 3)
    have h3 := hp (3 % turnW i 2 3) (3 / turnW i 2 3); have h4 := hp (4 % turnW i 2 3) (4 / turnW i 2 3); have h5 := hp (5 % turnW i 2 3) (5 / turnW i 2 3)
    omega
  rw [eqB_ex _ _ hl, bnd_pure, cnd_if, cnd_if]
  by_cases h1 : turnW i 2 3 = turnW k 2 3
  · rw [if_pos (by rw [h1])]
    by_cases h2 : turnH i 2 3 = turnH k 2 3
    · rw [if_pos (by rw [h2])]; congr 1; exact decide_eq_decide.2 ⟨fun h => ⟨h1, h2, h⟩, fun h => h.2.2⟩
    · rw [if_neg (by omega), decide_eq_false (fun h => h2 h.2.1)]
  · rw [if_neg (by omega), decide_eq_false (fun h => h1 h.1)]

theorem Then_eq {t u k : Nat} (ht : 1 ≤ t ∧ t ≤ 8) (hu : 1 ≤ u ∧ u ≤ 8) (hk : 1 ≤ k ∧ k ≤ 8) (hc : turnW u (turnW t 2 3) (turnH t 2 3) = turnW k 2 3 ∧ turnH u (turnW t 2 3) (turnH t 2 3) = turnH k 2 3 ∧
    ∀ x y : Int, srcS t (2 : Nat) (3 : Nat) (srcS u (turnW t 2 3 : Nat) (turnH t 2 3 : Nat) x y).1 (srcS u (turnW t 2 3 : Nat) (turnH t 2 3 : Nat) x y).2 = srcS k (2 : Nat) (3 : Nat) x y) : pix_Then (t : Int) (u : Int) = some ((k : Int), 0) := by
  unfold pix_Then
  rw [pix_outside_eq, bnd_pure, pix_outside_eq, bnd_pure, show (decide ((t : Int) < 1) || decide (8 < (t : Int))) = false from by simp; omega, cnd_false, show (decide ((u : Int) < 1) || decide (8 < (u : Int))) = false from by simp; omega, cnd_false,
    smp_eq, bnd_pure, pix_turned_eq smp_im ht, bnd_pure, pix_turned_eq (turn_im smp_im ht) hu, bnd_pure]
  have e := comp_img ht hu hc smp_im
  unfold turnI at e
  rw [e]
  refine fix_upto 1 k hk.1 (fun next i h1 h2 => ?_) (fun next => ?_)
  · show pix_Then_l1 (turnI k 2 3 smpL) next (i : Int) = _
    unfold pix_Then_l1
    rw [cnd_if, if_pos (by omega), smp_eq, bnd_pure, pix_turned_eq smp_im (t := i) (by omega), bnd_pure]
    show bnd (pix_Same (turnI i 2 3 smpL) (turnI k 2 3 smpL)) _ = _
    rw [Same_turn, bnd_pure, smp_ne (by omega) hk (by omega), cnd_false, gI_ok (by omega), bnd_pure]
  · show pix_Then_l1 (turnI k 2 3 smpL) next (k : Int) = _
    unfold pix_Then_l1
    rw [cnd_if, if_pos (by omega), smp_eq, bnd_pure, pix_turned_eq smp_im hk, bnd_pure]
    show bnd (pix_Same (turnI k 2 3 smpL) (turnI k 2 3 smpL)) _ = _
    rw [Same_turn, bnd_pure, show sameT k k = true from by unfold sameT; simp, cnd_true]
end Go.M

/- A turn before a crop: the same crop of the turned image, in plain Lean. Conditions: none. -/
namespace Go.M
open Go.Md Go.Pl

/-- Where the crop lies in the turned image. -/
def cropX (t w h a b c d : Nat) : Nat := if t = 1 ∨ t = 4 then a else if t = 2 ∨ t = 3 then w - a - c else if t = 5 ∨ t = 8 then b else h - b - d
def cropY (t w h a b c d : Nat) : Nat := if t = 1 ∨ t = 2 then b else if t = 3 ∨ t = 4 then h - b - d else if t = 5 ∨ t = 6 then a else w - a - c

theorem eight {t : Nat} (ht : 1 ≤ t ∧ t ≤ 8) : t = 1 ∨ t = 2 ∨ t = 3 ∨ t = 4 ∨ t = 5 ∨ t = 6 ∨ t = 7 ∨ t = 8 := by omega

theorem crop_in {t w h a b c d : Nat} (ht : 1 ≤ t ∧ t ≤ 8) (hc : 1 ≤ c ∧ a + c ≤ w) (hd : 1 ≤ d ∧ b + d ≤ h) :
    cropX t w h a b c d + turnW t c d ≤ turnW t w h ∧ cropY t w h a b c d + turnH t c d ≤ turnH t w h ∧ 1 ≤ turnW t c d ∧ 1 ≤ turnH t c d := by
  rcases eight ht with rfl | rfl | rfl | rfl | rfl | rfl | rfl | rfl <;> simp [cropX, cropY, turnW, turnH] <;> omega

theorem crop_hit {t w h a b c d u v : Nat} (ht : 1 ≤ t ∧ t ≤ 8) (hc : 1 ≤ c ∧ a + c ≤ w) (hd : 1 ≤ d ∧ b + d ≤ h) (hu : u < turnW t w h) (hv : v < turnH t w h) :
    (((a : Int) ≤ (srcS t w h u v).1 ∧ (srcS t w h u v).1 ≤ (a : Int) + c - 1) ∧ (b : Int) ≤ (srcS t w h u v).2 ∧ (srcS t w h u v).2 ≤ (b : Int) + d - 1) ↔
    ((cropX t w h a b c d ≤ u ∧ u < cropX t w h a b c d + turnW t c d) ∧ cropY t w h a b c d ≤ v ∧ v < cropY t w h a b c d + turnH t c d) := by
  rcases eight ht with rfl | rfl | rfl | rfl | rfl | rfl | rfl | rfl <;> simp [cropX, cropY, turnW, turnH, srcS] at hu hv ⊢ <;> omega

theorem crop_src {t w h a b c d x y : Nat} (ht : 1 ≤ t ∧ t ≤ 8) (hc : 1 ≤ c ∧ a + c ≤ w) (hd : 1 ≤ d ∧ b + d ≤ h) (hx : x < turnW t c d) (hy : y < turnH t c d) :
    (srcS t w h (cropX t w h a b c d + x : Nat) (cropY t w h a b c d + y : Nat)).1 = a + (srcS t c d x y).1 ∧ (srcS t w h (cropX t w h a b c d + x : Nat) (cropY t w h a b c d + y : Nat)).2 = b + (srcS t c d x y).2 := by
  rcases eight ht with rfl | rfl | rfl | rfl | rfl | rfl | rfl | rfl <;> simp [cropX, cropY, turnW, turnH, srcS] at hx hy ⊢ <;> omega

/-- Turn and crop change places. -/
theorem turn_crop {t w h a b c d : Nat} {l : List Int} (m : Im w h l) (ht : 1 ≤ t ∧ t ≤ 8) (hc : 1 ≤ c ∧ a + c ≤ w) (hd : 1 ≤ d ∧ b + d ≤ h) :
    imgL (turnW t c d) (turnH t c d) (turnPx t c d (imgL c d (cropPx w l a b))) = imgL (turnW t c d) (turnH t c d) (cropPx (turnW t w h) (imgL (turnW t w h) (turnH t w h) (turnPx t w h l)) (cropX t w h a b c d) (cropY t w h a b c d)) := by
  have pc : px3 c d (cropPx w l a b) := fun x y hx hy => by unfold cropPx; exact pxN_len m (by omega) (by omega)
  have pt : px3 (turnW t w h) (turnH t w h) (turnPx t w h l) := fun x y hx hy => (turnPx_ok m ht hx hy).1
  obtain ⟨i1, i2, _, _⟩ := crop_in ht hc hd
  rw [turn_px ht pc, crop_px pt i1 i2]
  refine img_congr fun x y hx hy => ?_
  obtain ⟨p, q, e, hp, hq⟩ := srcT ht hx hy
  obtain ⟨e1, e2⟩ := crop_src ht hc hd hx hy
  rw [e] at e1 e2 ⊢
  unfold cropPx turnPx
  simp only [Int.toNat_natCast]
  try simp only at e1 e2
  rw [e1, e2]
  congr 1

/-! ### the program's search -/

/-- What the search has found behind so many pixels. -/
def foundS (W H X Y k : Nat) : Int × Int := if Y * W + X < k then ((X : Int), (Y : Int)) else ((W : Int), (H : Int))

theorem found_step {W H X Y u v : Nat} (hu : u < W) (hv : v < H) (hX : X < W) (hit : Bool) (h1 : hit = true → X ≤ u ∧ Y ≤ v) (h2 : u = X → v = Y → hit = true) :
    (if hit = true then (min (foundS W H X Y (v * W + u)).1 u, min (foundS W H X Y (v * W + u)).2 v) else foundS W H X Y (v * W + u)) = foundS W H X Y (v * W + u + 1) := by
  have huniq : v * W + u = Y * W + X → u = X ∧ v = Y := by
    intro e
    have e1 : (v * W + u) % W = (Y * W + X) % W := by rw [e]
    have e2 : (v * W + u) / W = (Y * W + X) / W := by rw [e]
    rw [Nat.mul_comm v W, Nat.mul_comm Y W, Nat.mul_add_mod, Nat.mul_add_mod, Nat.mod_eq_of_lt hu, Nat.mod_eq_of_lt hX] at e1
    rw [Nat.mul_comm v W, Nat.mul_comm Y W, Nat.mul_add_div (by omega), Nat.mul_add_div (by omega), Nat.div_eq_of_lt hu, Nat.div_eq_of_lt hX] at e2
    omega
  unfold foundS
  cases hit with
  | true =>
    obtain ⟨hx, hy⟩ := h1 rfl
    have hle : Y * W + X ≤ v * W + u := by have := Nat.mul_le_mul_right W hy; omega
    rw [if_pos rfl, if_pos (show Y * W + X < v * W + u + 1 from by omega)]
    by_cases hlt : Y * W + X < v * W + u
    · rw [if_pos hlt]
      simp only
      rw [Int.min_eq_left (by omega), Int.min_eq_left (by omega)]
    · rw [if_neg hlt]
      obtain ⟨rfl, rfl⟩ := huniq (by omega)
      simp only
      rw [Int.min_eq_right (by omega), Int.min_eq_right (by omega)]
  | false =>
    rw [if_neg (by decide)]
    by_cases hlt : Y * W + X < v * W + u
    · rw [if_pos hlt, if_pos (by omega)]
    · rw [if_neg hlt, if_neg]
      intro h
      obtain ⟨rfl, rfl⟩ := huniq (by omega)
      exact absurd (h2 rfl rfl) (by decide)

theorem Sides_eq {t w h : Nat} (ht : 1 ≤ t ∧ t ≤ 8) : pix_Sides (t : Int) (w : Int) (h : Int) = some (((turnW t w h : Nat) : Int), ((turnH t w h : Nat) : Int)) := by
  unfold pix_Sides pix_turnings turnW turnH
  rw [bnd_pure, gIx_ok (by omega), bnd_pure, Int.toNat_natCast]
  rcases eight ht with rfl | rfl | rfl | rfl | rfl | rfl | rfl | rfl <;> rfl
theorem outE_eq (a b c : Int) : edit_outside a b c = some (decide (a < b) || decide (c < a)) := by
  unfold edit_outside
  rw [cnd_if]
  by_cases h : a < b <;> simp [h]

theorem turnedCrop_eq {t w h a b c d : Nat} (ht : 1 ≤ t ∧ t ≤ 8) (hw : w ≤ 64) (hh : h ≤ 64) (hc : 1 ≤ c ∧ a + c ≤ w) (hd : 1 ≤ d ∧ b + d ≤ h) :
    edit_turnedCrop ⟨2, a, b, c, d⟩ (t : Int) (w : Int) (h : Int) = some ⟨2, (cropX t w h a b c d : Nat), (cropY t w h a b c d : Nat), (turnW t c d : Nat), (turnH t c d : Nat)⟩ := by
  obtain ⟨i1, i2, i3, i4⟩ := crop_in ht hc hd
  have hW : turnW t w h ≤ 64 := by unfold turnW; split <;> omega
  have hH : turnH t w h ≤ 64 := by unfold turnH; split <;> omega
  generalize hX : cropX t w h a b c d = X at i1
  generalize hY : cropY t w h a b c d = Y at i2
  unfold edit_turnedCrop
  rw [Sides_eq ht, bnd_pure]
  simp only
  have inner : ∀ (v : Nat), v < turnH t w h → ∀ next2 : (Int × Int × Int) → Option T_edit_Step,
      fix (fun next4 s => edit_turnedCrop_l4 ⟨2, a, b, c, d⟩ (t : Int) (w : Int) (h : Int) (((turnW t w h : Nat) : Int), ((turnH t w h : Nat) : Int)) (v : Int) next2 next4 s.1 s.2.1 s.2.2) ((foundS (turnW t w h) (turnH t w h) X Y (v * turnW t w h + 0)).1, (foundS (turnW t w h) (turnH t w h) X Y (v * turnW t w h + 0)).2, ((0 : Nat) : Int)) =
      next2 ((foundS (turnW t w h) (turnH t w h) X Y ((v + 1) * turnW t w h)).1, (foundS (turnW t w h) (turnH t w h) X Y ((v + 1) * turnW t w h)).2, ((v + 1 : Nat) : Int)) := by
    intro v hv next2
    refine fix_way (F := fun next4 s => edit_turnedCrop_l4 ⟨2, a, b, c, d⟩ (t : Int) (w : Int) (h : Int) (((turnW t w h : Nat) : Int), ((turnH t w h : Nat) : Int)) (v : Int) next2 next4 s.1 s.2.1 s.2.2) (fun u => ((foundS (turnW t w h) (turnH t w h) X Y (v * turnW t w h + u)).1, (foundS (turnW t w h) (turnH t w h) X Y (v * turnW t w h + u)).2, (u : Int))) (turnW t w h) (fun u hu next => ?_) (fun next => ?_)
    · show edit_turnedCrop_l4 _ _ _ _ _ (v : Int) next2 next (foundS (turnW t w h) (turnH t w h) X Y (v * turnW t w h + u)).1 (foundS (turnW t w h) (turnH t w h) X Y (v * turnW t w h + u)).2 (u : Int) = next ((foundS (turnW t w h) (turnH t w h) X Y (v * turnW t w h + (u + 1))).1, (foundS (turnW t w h) (turnH t w h) X Y (v * turnW t w h + (u + 1))).2, ((u + 1 : Nat) : Int))
      have hit := crop_hit ht hc hd hu hv
      rw [hX, hY] at hit
      have fs := found_step hu hv (X := X) (Y := Y) (W := turnW t w h) (H := turnH t w h) (by omega) (decide ((X ≤ u ∧ u < X + turnW t c d) ∧ Y ≤ v ∧ v < Y + turnH t c d)) (fun h => by have := of_decide_eq_true h; omega) (fun e1 e2 => by subst e1 e2; exact decide_eq_true (by omega))
      rw [← Nat.add_assoc, ← fs]
      unfold edit_turnedCrop_l4
      simp only
      rw [cnd_if, if_pos (by omega), From_eq (t := (t : Int)) (by omega) (by omega) (by omega), bnd_pure, gI_ok (by omega), bnd_pure, gI_ok (by omega), bnd_pure, outE_eq, bnd_pure, gI_ok (by omega), bnd_pure, gI_ok (by omega), bnd_pure, outE_eq, bnd_pure]
      unfold edit_turnedCrop_j5
      rw [gI_ok (by omega)]
      simp only [bnd_pure]
      by_cases g1 : (a : Int) ≤ (srcS t w h u v).1 ∧ (srcS t w h u v).1 ≤ (a : Int) + c - 1
      · rw [show (!(decide ((srcS t w h u v).1 < (a : Int)) || decide ((a : Int) + c - 1 < (srcS t w h u v).1))) = true from by simp; omega, cnd_true]
        by_cases g2 : (b : Int) ≤ (srcS t w h u v).2 ∧ (srcS t w h u v).2 ≤ (b : Int) + d - 1
        · rw [show (!(decide ((srcS t w h u v).2 < (b : Int)) || decide ((b : Int) + d - 1 < (srcS t w h u v).2))) = true from by simp; omega, cnd_true, if_pos (decide_eq_true (hit.1 ⟨g1, g2⟩))]; rfl
        · rw [show (!(decide ((srcS t w h u v).2 < (b : Int)) || decide ((b : Int) + d - 1 < (srcS t w h u v).2))) = false from by simp; omega, cnd_false, if_neg (fun h => g2 (hit.2 (of_decide_eq_true h)).2)]; rfl
      · rw [show (!(decide ((srcS t w h u v).1 < (a : Int)) || decide ((a : Int) + c - 1 < (srcS t w h u v).1))) = false from by simp; omega, cnd_false, if_neg (fun h => g1 (hit.2 (of_decide_eq_true h)).1)]; rfl
    · show edit_turnedCrop_l4 _ _ _ _ _ (v : Int) next2 next _ _ ((turnW t w h : Nat) : Int) = _
      unfold edit_turnedCrop_l4 edit_turnedCrop_j3
      simp only
      rw [cnd_if, if_neg (by omega), gI_ok (by omega), bnd_pure, Nat.succ_mul]; rfl
  have fin : foundS (turnW t w h) (turnH t w h) X Y (turnH t w h * turnW t w h) = ((X : Int), (Y : Int)) := by
    unfold foundS
    rw [if_pos]
    have : Y * turnW t w h + turnW t w h ≤ turnH t w h * turnW t w h := by rw [← Nat.succ_mul]; exact Nat.mul_le_mul_right _ (by omega)
    omega
  have st0 : (((turnW t w h : Nat) : Int), ((turnH t w h : Nat) : Int), (0 : Int)) = ((foundS (turnW t w h) (turnH t w h) X Y (0 * turnW t w h)).1, (foundS (turnW t w h) (turnH t w h) X Y (0 * turnW t w h)).2, ((0 : Nat) : Int)) := by
    unfold foundS
    rw [if_neg (by omega)]; rfl
  rw [st0]
  refine fix_way (F := fun next2 s => edit_turnedCrop_l2 ⟨2, a, b, c, d⟩ (t : Int) (w : Int) (h : Int) (((turnW t w h : Nat) : Int), ((turnH t w h : Nat) : Int)) next2 s.1 s.2.1 s.2.2) (fun v => ((foundS (turnW t w h) (turnH t w h) X Y (v * turnW t w h)).1, (foundS (turnW t w h) (turnH t w h) X Y (v * turnW t w h)).2, (v : Int))) (turnH t w h) (fun v hv next => ?_) (fun next => ?_)
  · show edit_turnedCrop_l2 _ _ _ _ _ next (foundS (turnW t w h) (turnH t w h) X Y (v * turnW t w h)).1 (foundS (turnW t w h) (turnH t w h) X Y (v * turnW t w h)).2 (v : Int) = _
    unfold edit_turnedCrop_l2
    simp only
    rw [cnd_if, if_pos (by omega)]
    exact inner v hv next
  · show edit_turnedCrop_l2 _ _ _ _ _ next (foundS (turnW t w h) (turnH t w h) X Y (turnH t w h * turnW t w h)).1 (foundS (turnW t w h) (turnH t w h) X Y (turnH t w h * turnW t w h)).2 ((turnH t w h : Nat) : Int) = _
    unfold edit_turnedCrop_l2 edit_turnedCrop_j1
    simp only
    rw [cnd_if, if_neg (by omega), Sides_eq ht, bnd_pure, fin]
end Go.M

/- Rules that shorten recipes, in their place, in plain Lean. Conditions: none. -/
namespace Go.M
open Go.Md Go.Pl

/-- The same sizes, the same image: at one image. -/
def EQ (X Y : List T_edit_Step) (w h : Nat) (l : List Int) : Prop := okAll Y ∧ (∀ q, sizeGo (Y ++ q) w h = sizeGo (X ++ q) w h) ∧ runI Y ⟨w, h, l⟩ = runI X ⟨w, h, l⟩

theorem eq_neutral {s : T_edit_Step} (hs : stepE s = 0) {w h : Nat} {l : List Int} (m : Im w h l) (hn : neutralS s w h = true) : EQ [s] [] w h l := by
  refine ⟨fun x hx => (by cases hx), fun q => ?_, (neutral_step hs m hn).symm⟩
  unfold neutralS at hn
  simp only [List.nil_append, List.cons_append, sizeGo]
  by_cases h1 : s.Kind = 1
  · rw [if_pos h1, decide_eq_true_iff] at hn
    rw [if_pos h1, if_neg (by omega)]
  rw [if_neg h1] at hn
  rw [if_neg h1]
  by_cases h2 : s.Kind = 2
  · rw [if_pos h2] at hn
    unfold eq_edit_Step at hn
    rw [decide_eq_true_iff] at hn
    obtain ⟨_, hA, hB, hC, hD⟩ := hn
    simp only at hA hB hC hD
    rw [if_pos h2, if_pos (by omega), hC, hD]
  rw [if_neg h2] at hn
  rw [if_neg h2]
  by_cases h3 : s.Kind = 3
  · rw [if_pos h3, decide_eq_true_iff] at hn
    rw [if_pos h3, hn.1, hn.2]
  · rw [if_neg h3]

theorem stepE_crop {A B C D : Int} (hA : 0 ≤ A ∧ A ≤ 63) (hB : 0 ≤ B ∧ B ≤ 63) (hC : 1 ≤ C ∧ C ≤ 64) (hD : 1 ≤ D ∧ D ≤ 64) : stepE ⟨2, A, B, C, D⟩ = 0 := by
  unfold stepE
  rw [if_neg (by simp only; omega), if_neg, if_neg, if_neg]
  · simp only; omega
  · unfold badS; simp only; omega
  · unfold formS usedS; simp

theorem eq_turns {s t : T_edit_Step} (hs : stepE s = 0) (ht : stepE t = 0) (k1 : s.Kind = 1) (k2 : t.Kind = 1) {w h : Nat} {l : List Int} (m : Im w h l) :
    ∃ k : Nat, (1 ≤ k ∧ k ≤ 8) ∧ pix_Then s.A t.A = some ((k : Int), 0) ∧ EQ [s, t] [⟨1, k, 0, 0, 0⟩] w h l := by
  have n1 := nums1 hs k1
  have n2 := nums1 ht k2
  obtain ⟨k, hk, hc⟩ := comp_all (t := s.A.toNat) (u := t.A.toNat) (by omega) (by omega)
  refine ⟨k, hk, ?_, fun x hx => ?_, fun q => ?_, ?_⟩
  · have := Then_eq (t := s.A.toNat) (u := t.A.toNat) (by omega) (by omega) hk (hc 2 3)
    rwa [nat_of (by omega), nat_of (by omega)] at this
  · rw [List.mem_singleton.1 hx, stepE_turn, if_pos (by omega)]
  · obtain ⟨e1, e2, _⟩ := hc 2 3
    simp only [List.cons_append, List.nil_append, sizeGo]
    rw [if_pos trivial, if_pos k1, if_pos k2, if_pos k2]
    unfold turnW turnH at e1
    by_cases a1 : 5 ≤ s.A
    · by_cases a2 : 5 ≤ t.A
      · rw [if_pos a1, if_pos a2, if_neg]
        rw [if_pos (show 5 ≤ t.A.toNat from by omega), if_pos (show 5 ≤ s.A.toNat from by omega)] at e1
        split at e1 <;> omega
      · rw [if_pos a1, if_neg a2, if_pos]
        rw [if_neg (show ¬ 5 ≤ t.A.toNat from by omega), if_pos (show 5 ≤ s.A.toNat from by omega)] at e1
        split at e1 <;> omega
    · by_cases a2 : 5 ≤ t.A
      · rw [if_neg a1, if_pos a2, if_pos]
        rw [if_pos (show 5 ≤ t.A.toNat from by omega), if_neg (show ¬ 5 ≤ s.A.toNat from by omega)] at e1
        split at e1 <;> omega
      · rw [if_neg a1, if_neg a2, if_neg]
        rw [if_neg (show ¬ 5 ≤ t.A.toNat from by omega), if_neg (show ¬ 5 ≤ s.A.toNat from by omega)] at e1
        split at e1 <;> omega
  · show stepI ⟨1, k, 0, 0, 0⟩ ⟨w, h, l⟩ = stepI t (stepI s ⟨w, h, l⟩)
    rw [step1 k1, step1 k2, step1 rfl]
    have e := comp_img (t := s.A.toNat) (u := t.A.toNat) (by omega) (by omega) (hc w h) m
    unfold turnI at e
    rw [e, Int.toNat_natCast]

theorem eq_crops {s t : T_edit_Step} (hs : stepE s = 0) (ht : stepE t = 0) (k1 : s.Kind = 2) (k2 : t.Kind = 2) {w h : Nat} {l : List Int} (m : Im w h l) (hc : s.A + s.C ≤ w ∧ s.B + s.D ≤ h) (hc2 : t.A + t.C ≤ s.C ∧ t.B + t.D ≤ s.D) :
    EQ [s, t] [⟨2, s.A + t.A, s.B + t.B, t.C, t.D⟩] w h l := by
  have n1 := nums2 hs k1
  have n2 := nums2 ht k2
  have hw := m.w2
  have hh := m.h2
  refine ⟨fun x hx => ?_, fun q => ?_, ?_⟩
  · rw [List.mem_singleton.1 hx]; exact stepE_crop (by omega) (by omega) (by omega) (by omega)
  · simp only [List.cons_append, List.nil_append, sizeGo]
    rw [if_neg (by decide), if_pos trivial, if_pos (by omega), if_neg (by omega), if_pos k1, if_pos (by omega), if_neg (by omega), if_pos k2, if_pos (by omega)]
  · show stepI ⟨2, s.A + t.A, s.B + t.B, t.C, t.D⟩ ⟨w, h, l⟩ = stepI t (stepI s ⟨w, h, l⟩)
    rw [step2 k1, step2 rfl]
    have e1 : (⟨s.C, s.D, imgL s.C.toNat s.D.toNat (cropPx w l s.A.toNat s.B.toNat)⟩ : T_api_Image) = ⟨((s.C.toNat : Nat) : Int), ((s.D.toNat : Nat) : Int), imgL s.C.toNat s.D.toNat (cropPx w l s.A.toNat s.B.toNat)⟩ := by
      rw [nat_of (by omega), nat_of (by omega)]
    rw [e1, step2 k2]
    have p : px3 s.C.toNat s.D.toNat (cropPx w l s.A.toNat s.B.toNat) := fun x y hx hy => by unfold cropPx; exact pxN_len m (by omega) (by omega)
    rw [crop_px p (by omega) (by omega)]
    congr 1
    refine img_congr fun x y hx hy => ?_
    unfold cropPx
    rw [show (s.A + t.A).toNat = s.A.toNat + t.A.toNat from by omega, show (s.B + t.B).toNat = s.B.toNat + t.B.toNat from by omega, Nat.add_assoc, Nat.add_assoc]

theorem eq_turnFirst {s t : T_edit_Step} (hs : stepE s = 0) (ht : stepE t = 0) (k1 : s.Kind = 2) (k2 : t.Kind = 1) {w h : Nat} {l : List Int} (m : Im w h l) (hc : s.A + s.C ≤ w ∧ s.B + s.D ≤ h) :
    ∃ c, edit_turnedCrop s t.A w h = some c ∧ c.Kind = 2 ∧ EQ [s, t] [t, c] w h l := by
  have n1 := nums2 hs k1
  have n2 := nums1 ht k2
  have hw := m.w2
  have hh := m.h2
  obtain ⟨sk, sA, sB, sC, sD⟩ := s
  simp only at k1 n1 hc
  subst k1
  obtain ⟨a, rfl⟩ := Int.eq_ofNat_of_zero_le n1.1
  obtain ⟨b, rfl⟩ := Int.eq_ofNat_of_zero_le n1.2.1
  obtain ⟨c, rfl⟩ := Int.eq_ofNat_of_zero_le (show 0 ≤ sC from by omega)
  obtain ⟨d, rfl⟩ := Int.eq_ofNat_of_zero_le (show 0 ≤ sD from by omega)
  obtain ⟨u, hu⟩ := Int.eq_ofNat_of_zero_le (show 0 ≤ t.A from by omega)
  have hu8 : 1 ≤ u ∧ u ≤ 8 := by omega
  have hcc : 1 ≤ c ∧ a + c ≤ w := by omega
  have hdd : 1 ≤ d ∧ b + d ≤ h := by omega
  obtain ⟨i1, i2, i3, i4⟩ := crop_in hu8 hcc hdd
  have hW : turnW u w h ≤ 64 := by unfold turnW; split <;> omega
  have hH : turnH u w h ≤ 64 := by unfold turnH; split <;> omega
  refine ⟨⟨2, (cropX u w h a b c d : Nat), (cropY u w h a b c d : Nat), (turnW u c d : Nat), (turnH u c d : Nat)⟩, ?_, rfl, fun x hx => ?_, fun q => ?_, ?_⟩
  · rw [hu]; exact turnedCrop_eq hu8 hw hh hcc hdd
  · rcases List.mem_cons.1 hx with rfl | hx
    · exact ht
    · rw [List.mem_singleton.1 hx]; exact stepE_crop (by omega) (by omega) (by omega) (by omega)
  · simp only [List.cons_append, List.nil_append, sizeGo]
    rw [if_pos k2, if_neg (show ¬ (2 : Int) = 1 from by decide), if_pos trivial, if_neg (show ¬ (2 : Int) = 1 from by decide), if_pos trivial, if_neg (show ¬ (2 : Int) = 1 from by decide), if_pos trivial, if_pos (show (a : Int) + c ≤ w ∧ (b : Int) + d ≤ h from hc), if_pos k2]
    unfold turnW turnH at *
    by_cases h5 : 5 ≤ u
    · simp only [if_pos h5] at i1 i2 ⊢
      have h5' : 5 ≤ t.A := by omega
      rw [if_pos h5', if_pos h5', if_pos (by omega)]
    · simp only [if_neg h5] at i1 i2 ⊢
      have h5' : ¬ 5 ≤ t.A := by omega
      rw [if_neg h5', if_neg h5', if_pos (by omega)]
  · show stepI ⟨2, _, _, _, _⟩ (stepI t ⟨w, h, l⟩) = stepI t (stepI ⟨2, a, b, c, d⟩ ⟨w, h, l⟩)
    rw [step1 k2, step2 rfl, step2 rfl]
    show _ = stepI t ⟨(c : Int), (d : Int), _⟩
    rw [step1 k2, hu]
    simp only [Int.toNat_natCast]
    rw [turn_crop m hu8 hcc hdd]

theorem inv_dot {s : T_edit_Step} (k : s.Kind = 9) (p : Nat → Int) (j : Nat) : dotS s p j = 255 - p j := by
  unfold dotS toneB
  rw [if_neg (by omega), if_neg (by omega), if_pos (by unfold byteK; omega), if_neg (by omega), if_neg (by omega), if_neg (by omega)]

theorem eq_inverts {s t : T_edit_Step} (k1 : s.Kind = 9) (k2 : t.Kind = 9) {w h : Nat} {l : List Int} (m : Im w h l) : EQ [s, t] [] w h l := by
  refine ⟨fun x hx => (by cases hx), fun q => ?_, ?_⟩
  · simp only [List.cons_append, List.nil_append, sizeGo]
    rw [if_neg (by omega), if_neg (by omega), if_neg (by omega), if_neg (by omega), if_neg (by omega), if_neg (by omega)]
  · show (⟨w, h, l⟩ : T_api_Image) = stepI t (stepI s ⟨w, h, l⟩)
    rw [step4 (by omega), step4 (by omega)]
    congr 1
    have e0 := img_self m
    have e1 : toneP s (imgL w h (pxN w l)) (w * h) = imgL w h (fun x y => tone1 s (pxN w l x y)) := tone_img (px3_im m)
    rw [e0] at e1
    have e2 : toneP t (imgL w h (fun x y => tone1 s (pxN w l x y))) (w * h) = imgL w h (fun x y => tone1 t (tone1 s (pxN w l x y))) := tone_img px3_tone
    rw [e1, e2]
    refine e0.symm.trans (img_congr fun x y hx hy => ?_)
    have hl := pxN_len m hx hy
    match hq : pxN w l x y, hl with
    | [a, b, c], _ =>
      unfold tone1
      simp only [inv_dot k1, inv_dot k2]
      show [a, b, c] = [255 - (255 - a), 255 - (255 - b), 255 - (255 - c)]
      rw [Int.sub_sub_self, Int.sub_sub_self, Int.sub_sub_self]

theorem eq_shapeFirst {s t : T_edit_Step} (hs : stepE s = 0) (ht : stepE t = 0) (k1 : toneK s) (k2 : moveK t) {w h : Nat} {l : List Int} (m : Im w h l) (hc : cropOk t w h) : EQ [s, t] [t, s] w h l := by
  have hk := (stepE_ok hs).1
  unfold toneK at k1
  refine ⟨fun x hx => ?_, fun q => ?_, (step_comm m ht k1 k2 hc).symm⟩
  · rcases List.mem_cons.1 hx with rfl | hx
    · exact ht
    · rw [List.mem_singleton.1 hx]; exact hs
  · simp only [List.cons_append, List.nil_append, sizeGo]
    rw [if_neg (show ¬ s.Kind = 1 from by omega), if_neg (show ¬ s.Kind = 2 from by omega), if_neg (show ¬ s.Kind = 3 from by omega)]
    rw [if_neg (show ¬ s.Kind = 1 from by omega), if_neg (show ¬ s.Kind = 2 from by omega), if_neg (show ¬ s.Kind = 3 from by omega)]
    simp only [if_neg (show ¬ s.Kind = 1 from by omega), if_neg (show ¬ s.Kind = 2 from by omega), if_neg (show ¬ s.Kind = 3 from by omega)]

/-! ### in a place -/

theorem run_ctx : ∀ (p : List T_edit_Step) {w h : Nat} {P : List Int}, Im w h P → okAll p → (sizeGo p w h).2.2 = 0 → ∃ (a b : Nat) (Q : List Int), Im a b Q ∧ runI p ⟨w, h, P⟩ = ⟨a, b, Q⟩ ∧ sizeGo p w h = ((a : Int), (b : Int), 0)
  | [], w, h, P, m, _, _ => ⟨w, h, P, m, rfl, rfl⟩
  | s :: p, w, h, P, m, ho, hz => by
    obtain ⟨_, w', h', e, m', ez⟩ := step_size m (ho s (by simp)) hz
    obtain ⟨a, b, Q, mQ, e1, e2⟩ := run_ctx p m' (fun x hx => ho x (by simp [hx])) (by rw [← ez]; exact hz)
    refine ⟨a, b, Q, mQ, ?_, by rw [ez]; exact e2⟩
    show runI p (stepI s ⟨w, h, P⟩) = _
    rw [e]; exact e1

/-- A recipe that is right for images of a size. -/
def Good (l : List T_edit_Step) (w h : Nat) : Prop := okAll l ∧ l.length ≤ 50 ∧ (sizeGo l w h).2.2 = 0

theorem good_swap {p X Y q : List T_edit_Step} {w h a b : Nat} {P Q : List Int} (m : Im w h P) (g : Good (p ++ X ++ q) w h) (hr : runI p ⟨w, h, P⟩ = ⟨a, b, Q⟩) (hz : sizeGo p w h = ((a : Int), (b : Int), 0)) (e : EQ X Y a b Q) (hl : Y.length ≤ X.length) :
    Good (p ++ Y ++ q) w h ∧ runI (p ++ Y ++ q) ⟨w, h, P⟩ = runI (p ++ X ++ q) ⟨w, h, P⟩ := by
  obtain ⟨e1, e2, e3⟩ := e
  obtain ⟨g1, g2, g3⟩ := g
  have hz' : (sizeGo p w h).2.2 = 0 := by rw [hz]
  refine ⟨⟨fun x hx => ?_, ?_, ?_⟩, ?_⟩
  · rcases List.mem_append.1 hx with hx | hx
    · rcases List.mem_append.1 hx with hx | hx
      · exact g1 x (by simp [hx])
      · exact e1 x hx
    · exact g1 x (by simp [hx])
  · simp only [List.length_append] at g2 ⊢; omega
  · rw [List.append_assoc, sizeGo_append _ _ _ _ hz', hz] at g3 ⊢
    simp only at g3 ⊢
    rw [e2 q]; exact g3
  · simp only [runI, List.foldl_append] at hr e3 ⊢
    rw [hr, e3]
end Go.M
