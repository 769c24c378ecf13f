/- Plain lemmas about images: the scaling of the program and of the reference. Conditions: those that each lemma names. -/
import Derived.Test.YtfplifpbobfemaaDoorTtK
namespace Go.M
open Go.Md Go.Pl

theorem ofL_col {w h : Nat} {l : List Int} {a b j : Nat} (hj : j < 3) : ofL (l.drop (3 * (b * w + a))) j = colS w h l j a b := by
  unfold ofL colS pxN
  rw [List.getD_eq_getElem?_getD, List.getD_eq_getElem?_getD, List.getElem?_take, if_pos hj]; rfl

theorem shares_val {a b n : Nat} (ha : 1 ≤ a ∧ a ≤ 64) (hb : 1 ≤ b ∧ b ≤ 64) (hn : n < b) : pix_shares (a : Int) (b : Int) (n : Int) = some (val (pix_shares (a : Int) (b : Int) (n : Int))) ∧ Sh a b n (val (pix_shares (a : Int) (b : Int) (n : Int))) := by
  obtain ⟨l, h1, h2⟩ := shares_ok ha hb hn
  rw [h1]; exact ⟨rfl, h2⟩

/-- The program's sums over the shares of one pixel. -/
theorem sums_eq {w h : Nat} {l : List Int} (m : Im w h l) {W H x y : Nat} (hW : 1 ≤ W ∧ W ≤ 64) (hH : 1 ≤ H ∧ H ≤ 64) (hx : x < W) (hy : y < H) {R C : List T_pix_share} (hR : Sh h H y R) (hC : Sh w W x C)
    (t25 : T_api_Image) (t30 q6 : Int) (l6 : List Int) (y0 x0 : Int) (next4 : Int × List Int → Option T_api_Image) :
    fix (fun next9 s => pix_scaled_l9 ⟨w, h, l⟩ t25 t30 y0 l R x0 l6 next4 C next9 s.1 s.2) (0, fun _ => 0) = pix_scaled_j6 t25 t30 y0 x0 l6 next4 (R.foldl (addR w h l C) fun _ => 0) := by
  refine fix_list (F := fun next9 s => pix_scaled_l9 ⟨w, h, l⟩ t25 t30 y0 l R x0 l6 next4 C next9 s.1 s.2) R (addR w h l C) (fun m => pix_scaled_j6 t25 t30 y0 x0 l6 next4 m) (fun k m => ∀ j, j < 3 → 0 ≤ m j ∧ m j ≤ k * 4278190080) (fun next9 k m0 hk hm => ?_) (fun next9 m0 hm => ?_) _ (fun j hj => by simp)
  · obtain ⟨ra, rp, hr, hr1, hr2⟩ := hR.each _ (List.getElem_mem hk)
    have inner : fix (fun next11 s => pix_scaled_l11 ⟨w, h, l⟩ l C (k : Int) next9 R[k] next11 s.1 s.2) (0, m0) = pix_scaled_j10 (k : Int) next9 (C.foldl (addC w h l R[k]) m0) := by
      refine fix_list (F := fun next11 s => pix_scaled_l11 ⟨w, h, l⟩ l C (k : Int) next9 R[k] next11 s.1 s.2) C (addC w h l R[k]) (fun m => pix_scaled_j10 (k : Int) next9 m) (fun q m => ∀ j, j < 3 → 0 ≤ m j ∧ m j ≤ k * 4278190080 + q * 1044480) (fun next11 q m1 hq hm1 => ?_) (fun next11 m1 hm1 => ?_) _ (fun j hj => by have := hm j hj; omega)
      · obtain ⟨ca, cp, hc, hc1, hc2⟩ := hC.each _ (List.getElem_mem hq)
        have hkl := hR.len
        have hql := hC.len
        have hpr : ∀ j, j < 3 → (0 ≤ colS w h l j ca ra * rp ∧ colS w h l j ca ra * rp ≤ 16320) ∧ 0 ≤ colS w h l j ca ra * rp * cp ∧ colS w h l j ca ra * rp * cp ≤ 1044480 := fun j hj => prod_in (colS_in m hc1 hr1) (by omega) (by omega)
        have hadd : addC w h l R[k] m1 C[q] = fun j => if j < 3 then m1 j + colS w h l j ca ra * rp * cp else m1 j := by
          funext j; unfold addC; rw [hr, hc]; rfl
        refine ⟨?_, fun j hj => ?_⟩
        · show pix_scaled_l11 _ _ _ _ _ _ next11 (q : Int) m1 = _
          unfold pix_scaled_l11
          rw [cnd_if, if_pos (by omega), gAt_nat hq, bnd_pure, hc, hr]
          simp only
          rw [pix_at_eq m hc1 hr1, bnd_pure]
          refine (fill_add (F := fun next13 s => pix_scaled_l13 ⟨(ra : Int), (rp : Int)⟩ (q : Int) next11 ⟨(ca : Int), (cp : Int)⟩ (ofL (l.drop (3 * (ra * w + ca)))) next13 s.1 s.2) 3 (fun j => m1 j + colS w h l j ca ra * rp * cp) (fun m => pix_scaled_j12 (q : Int) next11 m) m1 (fun next13 j m2 hj hmj => ?_) (fun next13 m2 => ?_)).trans ?_
          · show pix_scaled_l13 _ _ _ _ _ next13 (j : Int) m2 = _
            unfold pix_scaled_l13
            have hv := colS_in m (c := j) hc1 hr1
            have hp := hpr j hj
            have hb := hm1 j hj
            rw [cnd_if, if_pos (by omega), gIx_nat hj, bnd_pure, bnd_pure, ofL_col (h := h) hj, gK_ok (by omega), bnd_pure]
            simp only
            rw [gI_ok (by omega), bnd_pure, gI_ok (by omega), bnd_pure, hmj, gI_ok (by omega), bnd_pure, bnd_pure, gI_ok (by omega), bnd_pure]
          · show pix_scaled_l13 _ _ _ _ _ next13 3 m2 = _
            unfold pix_scaled_l13
            rw [cnd_if, if_neg (by omega)]
          · unfold pix_scaled_j12
            rw [gI_ok (by omega), bnd_pure]
            rw [← hadd, hc, hr]
        · have hb := hm1 j hj
          have hp := hpr j hj
          rw [hadd]
          simp only [if_pos hj]
          omega
      · show pix_scaled_l11 _ _ _ _ _ _ next11 _ m1 = _
        unfold pix_scaled_l11
        rw [cnd_if, if_neg (by omega)]
    have hkl := hR.len
    have hql := hC.len
    refine ⟨?_, fun j hj => ?_⟩
    · show pix_scaled_l9 _ _ _ _ _ _ _ _ _ _ next9 (k : Int) m0 = _
      unfold pix_scaled_l9
      rw [cnd_if, if_pos (by omega), gAt_nat hk, bnd_pure, inner]
      unfold pix_scaled_j10
      rw [gI_ok (by omega), bnd_pure]; rfl
    · have hb := hm j hj
      unfold addR
      rw [addC_fold hj]
      have hs : shS (fun i => colS w h l j i R[k].at_.toNat * R[k].parts_) C = shS (fun i => colS w h l j i ra) C * rp := by
        rw [hr]; exact shS_mul (fun i => colS w h l j i ra) rp C
      have hrow := row_in m (c := j) hW.1 hx hr1
      rw [hs, hC.sum]
      obtain ⟨v, hv⟩ := Int.eq_ofNat_of_zero_le hrow.1
      rw [hv] at hrow ⊢
      have : v * rp ≤ 16320 * 64 := Nat.mul_le_mul (by omega) hr2
      rw [← Int.natCast_mul]
      omega
  · show pix_scaled_l9 _ _ _ _ _ _ _ _ _ _ next9 _ m0 = _
    unfold pix_scaled_l9
    rw [cnd_if, if_neg (by omega)]

theorem pix_scaled_eq {w h : Nat} {l : List Int} (m : Im w h l) {W H : Nat} (hW : 1 ≤ W ∧ W ≤ 64) (hH : 1 ≤ H ∧ H ≤ 64) : pix_scaled ⟨w, h, l⟩ (W : Int) (H : Int) = some ⟨W, H, imgL W H (scalePx w h l W H)⟩ := by
  have hA := m.area
  have hA1 := m.pos
  have hB : W * H ≤ 4096 := Nat.mul_le_mul hW.2 hH.2
  have hwb : 1 ≤ w ∧ w ≤ 64 := ⟨m.w1, m.w2⟩
  have hhb : 1 ≤ h ∧ h ≤ 64 := ⟨m.h1, m.h2⟩
  unfold pix_scaled
  simp only
  rw [blank_eq hB (by omega) (scalePx w h l W H), bnd_pure, gIN (n := w * h) (by rw [Int.natCast_mul]) (by omega), bnd_pure]
  refine (grid (F2 := fun next2 s => pix_scaled_l2 ⟨w, h, l⟩ (W : Int) (H : Int) ⟨W, H, fill3 W H (scalePx w h l W H) 0⟩ ((w * h : Nat) : Int) next2 s.1 s.2.1 s.2.2)
    (G := fun y next next4 s => pix_scaled_l4 ⟨w, h, l⟩ (W : Int) ⟨W, H, fill3 W H (scalePx w h l W H) 0⟩ ((w * h : Nat) : Int) (y : Int) l next (val (pix_shares (h : Int) (H : Int) (y : Int))) next4 s.1 s.2)
    W H (fill3 W H (scalePx w h l W H)) (fun q => (l, q)) (fun q => some ⟨W, H, q⟩) (fun next y hy => ?_) (fun next => ?_) (fun y next next4 x hy hx => ?_) (fun y next next4 hy => ?_)).trans ?_
  · show pix_scaled_l2 _ _ _ _ _ next (y : Int) l _ = _
    unfold pix_scaled_l2
    simp only
    rw [cnd_if, if_pos (by omega), (shares_val hhb hH hy).1, bnd_pure]
    rfl
  · show pix_scaled_l2 _ _ _ _ _ next _ l _ = _
    unfold pix_scaled_l2
    rw [cnd_if, if_neg (by omega)]; rfl
  · show pix_scaled_l4 _ _ _ _ _ l next _ next4 (x : Int) _ = _
    unfold pix_scaled_l4
    simp only
    obtain ⟨e1, s1⟩ := shares_val hhb hH hy
    obtain ⟨e2, s2⟩ := shares_val hwb hW hx
    rw [cnd_if, if_pos (by omega), e2, bnd_pure]
    refine (sums_eq m hW hH hx hy s1 s2 _ _ 0 _ _ _ next4).trans ?_
    unfold pix_scaled_j6
    have ht : ∀ j, j < 3 → _ := fun j hj => total (l := l) (w := w) (h := h) s1 s2 (j := j) hj
    refine (fill_loop (F := fun next8 s => pix_scaled_l8 _ _ _ _ _ next4 _ next8 s.1 s.2) 3 (fun j => scaleV w h l W H x y j) (fun p => pix_scaled_j7 ⟨W, H, fill3 W H (scalePx w h l W H) 0⟩ (y : Int) (x : Int) (fill3 W H (scalePx w h l W H) (y * W + x)) next4 p) (fun next8 j p hj => ?_) (fun next8 p => ?_) (fun _ => 0)).trans ?_
    · show pix_scaled_l8 _ _ _ _ _ next4 _ next8 (j : Int) p = _
      unfold pix_scaled_l8
      have hs := sumS_in m (c := j) hW.1 hx hH.1 hy
      rw [cnd_if, if_pos (by omega), gIx_nat hj, bnd_pure, ht j hj, gI_ok (by omega), bnd_pure, gI_ok (by omega), bnd_pure, gI_ok (by omega), bnd_pure, gQuo_nn (by omega) (by omega), bnd_pure, bnd_pure, gI_ok (by omega), bnd_pure]
      rfl
    · show pix_scaled_l8 _ _ _ _ _ next4 _ next8 3 p = _
      unfold pix_scaled_l8
      rw [cnd_if, if_neg (by omega)]
    · unfold pix_scaled_j7 pix_scaled_j5
      simp only
      rw [pix_set_eq (fun k hk => (scalePx_ok w h l W H _ _).1) hB hx hy (px := scalePx w h l W H) (p := fun j => if j < 3 then scaleV w h l W H x y j else 0) rfl, bnd_pure, gI_ok (by omega), bnd_pure]
  · show pix_scaled_l4 _ _ _ _ _ l next _ next4 _ _ = _
    unfold pix_scaled_l4 pix_scaled_j3
    rw [cnd_if, if_neg (by omega), gI_ok (by omega), bnd_pure, Nat.succ_mul]
  · rw [fill3_all]

theorem scale_im {w h : Nat} {l : List Int} {W H : Nat} (hW : 1 ≤ W ∧ W ≤ 64) (hH : 1 ≤ H ∧ H ≤ 64) : Im W H (imgL W H (scalePx w h l W H)) := imgL_im hW hH fun x y _ _ => scalePx_ok w h l W H x y

theorem pix_Scale_eq {w h : Nat} {l : List Int} (m : Im w h l) {W H : Nat} (hW : 1 ≤ W ∧ W ≤ 64) (hH : 1 ≤ H ∧ H ≤ 64) : pix_Scale ⟨w, h, l⟩ (W : Int) (H : Int) = some (⟨W, H, imgL W H (scalePx w h l W H)⟩, 0) := by
  unfold pix_Scale
  rw [pix_Check_eq, im_imgE m, bnd_pure, cnd_if, if_neg (fun h => h rfl), pix_outside_eq, bnd_pure, decide_eq_false (by omega), decide_eq_false (by omega)]
  show bnd (pix_outside _ _ _) _ = _
  rw [pix_outside_eq, bnd_pure, decide_eq_false (by omega), decide_eq_false (by omega)]
  show bnd (pix_scaled _ _ _) _ = _
  rw [pix_scaled_eq m hW hH, bnd_pure]

/-! ### the reference -/

/-- A loop that adds up. -/
theorem sum_loop {ρ : Type} {F : (Int × Int → Option ρ) → Int × Int → Option ρ} (a n : Nat) (g : Nat → Int) (J : Int → Option ρ) (v0 b : Int) (hv0 : 0 ≤ v0) (hg : ∀ i, a ≤ i → i < a + n → 0 ≤ g i ∧ g i ≤ b) (hb : 0 ≤ b)
    (step : ∀ next (i : Nat) (v : Int), a ≤ i → i < a + n → 0 ≤ v ∧ v ≤ v0 + b * n → F next (v, (i : Int)) = next (v + g i, (i : Int) + 1)) (last : ∀ next v, 0 ≤ v → F next (v, ((a + n : Nat) : Int)) = J v) : fix F (v0, (a : Int)) = J (v0 + sumR g a n) := by
  refine fix_of (F := F) (fun _ => J (v0 + sumR g a n)) (fun s => ∃ k : Nat, k ≤ n ∧ s = (v0 + sumR g a k, ((a + k : Nat) : Int))) (fun s => a + n - s.2.toNat) ?_ (v0, (a : Int)) ⟨0, by omega, by simp [sumR]⟩
  rintro next _ ⟨k, hk, rfl⟩ ih
  have h1 := sumR_in (g := g) (b := b) (a := a) (n := k) fun i h1 h2 => hg i h1 (by omega)
  have h2 : b * (k : Int) ≤ b * (n : Int) := Int.mul_le_mul_of_nonneg_left (by omega) hb
  by_cases h : k < n
  · rw [step next (a + k) _ (by omega) (by omega) (by omega)]
    refine ih _ ⟨k + 1, by omega, ?_⟩ (by simp only; omega)
    rw [sumR_add g a k 1]
    simp only [sumR]
    congr 1
    · omega
  · have : k = n := by omega
    subst this
    exact last next _ (by omega)

end Go.M
