/- Plain lemmas about images: turned, cropped and scaled ones, pixel by pixel. Conditions: those that each lemma names. -/
import Derived.Test.YtfplifpbobfemaaDoorTtR
namespace Go.M
open Go.Md Go.Pl

/-! ### two loops within one another -/

theorem grid {ρ σ τ : Type} (w h : Nat) (st : Nat → τ) (e : τ → σ) (J : τ → Option ρ) {F2 : (Int × σ → Option ρ) → Int × σ → Option ρ} {G : Nat → (Int × σ → Option ρ) → (Int × τ → Option ρ) → Int × τ → Option ρ}
    (ho : ∀ next (y : Nat), y < h → F2 next ((y : Int), e (st (y * w))) = fix (G y next) (0, st (y * w)))
    (hd : ∀ next, F2 next ((h : Int), e (st (h * w))) = J (st (h * w)))
    (hi : ∀ y next next4 (x : Nat), y < h → x < w → G y next next4 ((x : Int), st (y * w + x)) = next4 ((x : Int) + 1, st (y * w + x + 1)))
    (hr : ∀ y next next4, y < h → G y next next4 ((w : Int), st (y * w + w)) = next ((y : Int) + 1, e (st ((y + 1) * w)))) : fix F2 (0, e (st 0)) = J (st (h * w)) := by
  refine up2 (F := F2) h (fun _ _ => J (st (h * w))) (fun y s => s = e (st (y * w))) (fun next y s hy hs ih => ?_) (e (st 0)) (by simp)
  subst hs
  by_cases hlt : y < h
  · rw [ho next y hlt]
    have inner := up2 (F := G y next) w (fun _ _ => next ((y : Int) + 1, e (st ((y + 1) * w)))) (fun x s => s = st (y * w + x)) (fun next4 x s hx hs ih4 => by
      subst hs
      by_cases hxl : x < w
      · rw [hi y next next4 x hlt hxl]; exact ih4 _ hxl rfl
      · have : x = w := by omega
        subst this
        exact hr y next next4 hlt) (st (y * w)) (by simp)
    rw [inner]
    exact ih _ hlt rfl
  · have : y = h := by omega
    subst this
    exact hd next

/-! ### images -/

/-- The first n pixels. -/
def pre3 (w : Nat) (px : Nat → Nat → List Int) (n : Nat) : List Int := (List.range n).flatMap fun k => px (k % w) (k / w)

theorem pre3_succ (w : Nat) (px : Nat → Nat → List Int) (n : Nat) : pre3 w px (n + 1) = pre3 w px n ++ px (n % w) (n / w) := by
  unfold pre3; rw [List.range_succ, List.flatMap_append]; simp
theorem pre3_at (w : Nat) (px : Nat → Nat → List Int) {x y : Nat} (hx : x < w) : pre3 w px (y * w + x + 1) = pre3 w px (y * w + x) ++ px x y := by
  rw [pre3_succ]
  have h1 : (y * w + x) % w = x := by rw [Nat.mul_comm, Nat.mul_add_mod]; exact Nat.mod_eq_of_lt hx
  have h2 : (y * w + x) / w = y := by rw [Nat.mul_comm, Nat.mul_add_div (by omega), Nat.div_eq_of_lt hx, Nat.add_zero]
  rw [h1, h2]
theorem pre3_len (w : Nat) {px : Nat → Nat → List Int} : ∀ n, (∀ k, k < n → (px (k % w) (k / w)).length = 3) → (pre3 w px n).length = 3 * n
  | 0, _ => rfl
  | n + 1, h => by rw [pre3_succ, List.length_append, pre3_len w n fun k hk => h k (by omega), h n (by omega)]; omega

theorem idx_lt {w h a b : Nat} (ha : a < w) (hb : b < h) : b * w + a + 1 ≤ w * h := by
  have h1 : (b + 1) * w ≤ h * w := Nat.mul_le_mul_right _ hb
  rw [Nat.succ_mul] at h1; rw [Nat.mul_comm w h]; omega

/-- An image that is right. -/
structure Im (w h : Nat) (l : List Int) : Prop where
  w1 : 1 ≤ w
  w2 : w ≤ 64
  h1 : 1 ≤ h
  h2 : h ≤ 64
  len : l.length = 3 * (w * h)
  byte : ∀ v ∈ l, 0 ≤ v ∧ v ≤ 255

theorem Im.area {w h : Nat} {l : List Int} (m : Im w h l) : w * h ≤ 4096 := Nat.mul_le_mul m.w2 m.h2
theorem Im.pos {w h : Nat} {l : List Int} (m : Im w h l) : 1 ≤ w * h := Nat.mul_le_mul m.w1 m.h1

/-- The pixel in a place. -/
def pxN (w : Nat) (l : List Int) (a b : Nat) : List Int := (l.drop (3 * (b * w + a))).take 3

theorem pxN_len {w h : Nat} {l : List Int} (m : Im w h l) {a b : Nat} (ha : a < w) (hb : b < h) : (pxN w l a b).length = 3 := by
  have := idx_lt ha hb; have := m.len
  unfold pxN; rw [List.length_take, List.length_drop]; omega
theorem pxN_byte {w h : Nat} {l : List Int} (m : Im w h l) {a b : Nat} : ∀ v ∈ pxN w l a b, 0 ≤ v ∧ v ≤ 255 := fun v hv => m.byte v (List.mem_of_mem_drop (List.mem_of_mem_take hv))

theorem range_ofL {l : List Int} (h : 3 ≤ l.length) : (List.range 3).map (ofL l) = l.take 3 := by
  match l, h with
  | a :: b :: c :: r, _ => rfl

theorem gIN {a : Int} {n : Nat} (h : a = (n : Int)) (hn : n ≤ 1000000000) : gI a = some (n : Int) := by rw [h]; exact gI_ok (by omega)

theorem pix_at_eq {w h : Nat} {l : List Int} (m : Im w h l) {a b : Nat} (ha : a < w) (hb : b < h) : pix_at ⟨w, h, l⟩ (a : Int) (b : Int) = some (ofL (l.drop (3 * (b * w + a)))) := by
  have h1 := idx_lt ha hb
  have h2 := m.area
  have h3 := m.len
  unfold pix_at
  simp only
  rw [gIN (n := b * w) (by rw [Int.natCast_mul]) (by omega), bnd_pure, gIN (n := b * w + a) (by rw [Int.natCast_add]) (by omega), bnd_pure, gIN (n := 3 * (b * w + a)) (by rw [Int.natCast_mul]; rfl) (by omega), bnd_pure,
    gCut_from (by omega), bnd_pure, Int.toNat_natCast, gIf_ok (by rw [List.length_drop]; omega), bnd_pure]

theorem cpyL_mid {P Z q : List Int} {n : Nat} (hP : P.length = n) (hq : q.length = 3) (hZ : 3 ≤ Z.length) : cpyL (P ++ Z) (n : Int) Z.length q = P ++ q ++ Z.drop 3 := by
  subst hP
  unfold cpyL
  rw [Int.toNat_natCast, List.take_left, List.take_of_length_le (by omega), hq, Nat.min_eq_right hZ, List.drop_append, List.append_assoc]
  simp

/-- What is built so far: n pixels, and zeros. -/
def fill3 (w h : Nat) (px : Nat → Nat → List Int) (n : Nat) : List Int := pre3 w px n ++ List.replicate (3 * (w * h - n)) 0

theorem pix_set_eq {w h : Nat} {px : Nat → Nat → List Int} (hpx : ∀ k, k < w * h → (px (k % w) (k / w)).length = 3) (hw : w * h ≤ 4096) {x y : Nat} (hx : x < w) (hy : y < h) {p : Nat → Int} (hp : (List.range 3).map p = px x y) :
    pix_set ⟨w, h, fill3 w h px (y * w + x)⟩ (x : Int) (y : Int) p = some (fill3 w h px (y * w + x + 1)) := by
  have h1 := idx_lt hx hy
  have hl : (pre3 w px (y * w + x)).length = 3 * (y * w + x) := pre3_len w _ fun k hk => hpx k (by omega)
  have hq : (px x y).length = 3 := by rw [← hp]; rfl
  have hlen : (fill3 w h px (y * w + x)).length = 3 * (w * h) := by unfold fill3; rw [List.length_append, hl, List.length_replicate]; omega
  unfold pix_set
  simp only
  rw [gIN (n := y * w) (by rw [Int.natCast_mul]) (by omega), bnd_pure, gIN (n := y * w + x) (by rw [Int.natCast_add]) (by omega), bnd_pure, gIN (n := 3 * (y * w + x)) (by rw [Int.natCast_mul]; rfl) (by omega), bnd_pure,
    gCut_from (by omega), bnd_pure, Int.toNat_natCast, hp]
  have hz : (fill3 w h px (y * w + x)).drop (3 * (y * w + x)) = List.replicate (3 * (w * h - (y * w + x))) 0 := by
    unfold fill3; rw [← hl, List.drop_left]
  rw [hz]
  congr 1
  have := cpyL_mid (P := pre3 w px (y * w + x)) (Z := List.replicate (3 * (w * h - (y * w + x))) 0) (q := px x y) hl hq (by rw [List.length_replicate]; omega)
  unfold fill3
  rw [this, pre3_at w px hx, List.drop_replicate]
  congr 2; omega

theorem blank_eq {w h : Nat} (hw : w * h ≤ 4096) (hw2 : w ≤ 4096) (px : Nat → Nat → List Int) : pix_blank (w : Int) (h : Int) = some ⟨w, h, fill3 w h px 0⟩ := by
  unfold pix_blank
  rw [gIN (n := 3 * w) (by rw [Int.natCast_mul]; rfl) (by omega), bnd_pure, gIN (n := 3 * w * h) (by rw [Int.natCast_mul, Int.natCast_mul]; rfl) (by rw [Nat.mul_assoc]; omega), bnd_pure]
  rw [gMake_ok (by rw [Nat.mul_assoc, Int.toNat_natCast]; omega), bnd_pure, Int.toNat_natCast]
  congr 2
  unfold fill3 pre3
  rw [Nat.mul_assoc]; simp

/-- The whole image. -/
def imgL (w h : Nat) (px : Nat → Nat → List Int) : List Int := pre3 w px (w * h)

theorem fill3_all (w h : Nat) (px : Nat → Nat → List Int) : fill3 w h px (h * w) = imgL w h px := by
  unfold fill3 imgL; rw [Nat.mul_comm h w, Nat.sub_self]; simp

theorem imgL_im {w h : Nat} {px : Nat → Nat → List Int} (hw : 1 ≤ w ∧ w ≤ 64) (hh : 1 ≤ h ∧ h ≤ 64) (hpx : ∀ x y, x < w → y < h → (px x y).length = 3 ∧ ∀ v ∈ px x y, 0 ≤ v ∧ v ≤ 255) : Im w h (imgL w h px) := by
  have hk : ∀ k, k < w * h → k % w < w ∧ k / w < h := fun k hk => ⟨Nat.mod_lt _ (by omega), Nat.div_lt_of_lt_mul hk⟩
  refine ⟨hw.1, hw.2, hh.1, hh.2, pre3_len w _ fun k hk' => (hpx _ _ (hk k hk').1 (hk k hk').2).1, fun v hv => ?_⟩
  unfold imgL pre3 at hv
  obtain ⟨k, hk', hv⟩ := List.mem_flatMap.1 hv
  have := hk k (List.mem_range.1 hk')
  exact (hpx _ _ this.1 this.2).2 v hv

/-! ### turned -/

theorem srcN {t w h x y : Nat} (ht : 1 ≤ t ∧ t ≤ 8) (hx : x < if 5 ≤ t then h else w) (hy : y < if 5 ≤ t then w else h) : ∃ a b : Nat, srcS t w h x y = ((a : Int), (b : Int)) ∧ a < w ∧ b < h := by
  have ht' : t = 1 ∨ t = 2 ∨ t = 3 ∨ t = 4 ∨ t = 5 ∨ t = 6 ∨ t = 7 ∨ t = 8 := by omega
  rcases ht' with rfl | rfl | rfl | rfl | rfl | rfl | rfl | rfl
  all_goals simp only [(by decide : (5 ≤ 1) = False), (by decide : (5 ≤ 2) = False), (by decide : (5 ≤ 3) = False), (by decide : (5 ≤ 4) = False), (by decide : (5 ≤ 5) = True), (by decide : (5 ≤ 6) = True), (by decide : (5 ≤ 7) = True), (by decide : (5 ≤ 8) = True), if_true, if_false] at hx hy
  · exact ⟨x, y, rfl, hx, hy⟩
  · exact ⟨w - 1 - x, y, by show ((w : Int) - 1 - x, (y : Int)) = _; congr 1; omega, by omega, hy⟩
  · exact ⟨w - 1 - x, h - 1 - y, by show ((w : Int) - 1 - x, (h : Int) - 1 - y) = _; congr 1 <;> omega, by omega, by omega⟩
  · exact ⟨x, h - 1 - y, by show ((x : Int), (h : Int) - 1 - y) = _; congr 1; omega, hx, by omega⟩
  · exact ⟨y, x, rfl, hy, hx⟩
  · exact ⟨y, h - 1 - x, by show ((y : Int), (h : Int) - 1 - x) = _; congr 1; omega, hy, by omega⟩
  · exact ⟨w - 1 - y, h - 1 - x, by show ((w : Int) - 1 - y, (h : Int) - 1 - x) = _; congr 1 <;> omega, by omega, by omega⟩
  · exact ⟨w - 1 - y, x, by show ((w : Int) - 1 - y, (x : Int)) = _; congr 1; omega, by omega, hx⟩

theorem turn_fn {t : Nat} (ht : 1 ≤ t ∧ t ≤ 8) : ∃ g, gFn (pix_turnings_tab0 t) = some g ∧ ∀ w h x y : Int, (-1000 ≤ w ∧ w ≤ 1000) → (-1000 ≤ h ∧ h ≤ 1000) → (-1000 ≤ x ∧ x ≤ 1000) → (-1000 ≤ y ∧ y ≤ 1000) → g w h x y = some (srcS t w h x y) := by
  have ht' : t = 1 ∨ t = 2 ∨ t = 3 ∨ t = 4 ∨ t = 5 ∨ t = 6 ∨ t = 7 ∨ t = 8 := by omega
  rcases ht' with rfl | rfl | rfl | rfl | rfl | rfl | rfl | rfl
  · exact ⟨pix_turnings_1, rfl, fun w h x y _ _ _ _ => rfl⟩
  · exact ⟨pix_turnings_2, rfl, fun w h x y _ _ _ _ => by unfold pix_turnings_2; rw [gI_ok (by omega), bnd_pure, gI_ok (by omega), bnd_pure]; rfl⟩
  · exact ⟨pix_turnings_3, rfl, fun w h x y _ _ _ _ => by unfold pix_turnings_3; rw [gI_ok (by omega), bnd_pure, gI_ok (by omega), bnd_pure, gI_ok (by omega), bnd_pure, gI_ok (by omega), bnd_pure]; rfl⟩
  · exact ⟨pix_turnings_4, rfl, fun w h x y _ _ _ _ => by unfold pix_turnings_4; rw [gI_ok (by omega), bnd_pure, gI_ok (by omega), bnd_pure]; rfl⟩
  · exact ⟨pix_turnings_5, rfl, fun w h x y _ _ _ _ => rfl⟩
  · exact ⟨pix_turnings_6, rfl, fun w h x y _ _ _ _ => by unfold pix_turnings_6; rw [gI_ok (by omega), bnd_pure, gI_ok (by omega), bnd_pure]; rfl⟩
  · exact ⟨pix_turnings_7, rfl, fun w h x y _ _ _ _ => by unfold pix_turnings_7; rw [gI_ok (by omega), bnd_pure, gI_ok (by omega), bnd_pure, gI_ok (by omega), bnd_pure, gI_ok (by omega), bnd_pure]; rfl⟩
  · exact ⟨pix_turnings_8, rfl, fun w h x y _ _ _ _ => by unfold pix_turnings_8; rw [gI_ok (by omega), bnd_pure, gI_ok (by omega), bnd_pure]; rfl⟩

/-- The pixels of a turned image. -/
def turnPx (t w h : Nat) (l : List Int) (x y : Nat) : List Int := pxN w l (srcS t w h x y).1.toNat (srcS t w h x y).2.toNat
def turnW (t w h : Nat) : Nat := if 5 ≤ t then h else w
def turnH (t w h : Nat) : Nat := if 5 ≤ t then w else h

theorem turn_area (t w h : Nat) : turnW t w h * turnH t w h = w * h := by
  unfold turnW turnH; split
  · exact Nat.mul_comm _ _
  · rfl

theorem turnPx_ok {t w h : Nat} {l : List Int} (m : Im w h l) (ht : 1 ≤ t ∧ t ≤ 8) {x y : Nat} (hx : x < turnW t w h) (hy : y < turnH t w h) : (turnPx t w h l x y).length = 3 ∧ ∀ v ∈ turnPx t w h l x y, 0 ≤ v ∧ v ≤ 255 := by
  obtain ⟨a, b, e, ha, hb⟩ := srcN ht hx hy
  unfold turnPx
  rw [e]
  exact ⟨pxN_len m ha hb, pxN_byte m⟩

theorem pix_turned_eq {t w h : Nat} {l : List Int} (m : Im w h l) (ht : 1 ≤ t ∧ t ≤ 8) : pix_turned ⟨w, h, l⟩ (t : Int) = some ⟨turnW t w h, turnH t w h, imgL (turnW t w h) (turnH t w h) (turnPx t w h l)⟩ := by
  have hA := m.area
  have hw := m.w2
  have hh := m.h2
  have hW : turnW t w h ≤ 64 := by unfold turnW; split <;> omega
  have hH : turnH t w h ≤ 64 := by unfold turnH; split <;> omega
  have hB : turnW t w h * turnH t w h ≤ 4096 := by rw [turn_area]; exact hA
  have hpx : ∀ k, k < turnW t w h * turnH t w h → (turnPx t w h l (k % turnW t w h) (k / turnW t w h)).length = 3 := fun k hk =>
    (turnPx_ok m ht (Nat.mod_lt _ (by have := m.w1; have := m.h1; unfold turnW; split <;> omega)) (Nat.div_lt_of_lt_mul hk)).1
  unfold pix_turned
  have hs : pix_Sides (t : Int) (w : Int) (h : Int) = some (((turnW t w h : Nat) : Int), ((turnH t w h : Nat) : Int)) := by
    unfold pix_Sides pix_turnings turnW turnH
    rw [bnd_pure, gIx_ok (by omega), bnd_pure, Int.toNat_natCast]
    have ht' : t = 1 ∨ t = 2 ∨ t = 3 ∨ t = 4 ∨ t = 5 ∨ t = 6 ∨ t = 7 ∨ t = 8 := by omega
    rcases ht' with rfl | rfl | rfl | rfl | rfl | rfl | rfl | rfl <;> rfl
  simp only
  rw [hs, bnd_pure, blank_eq hB (by omega) (turnPx t w h l), bnd_pure]
  unfold pix_turnings
  rw [bnd_pure, gIx_ok (by omega), bnd_pure, Int.toNat_natCast]
  obtain ⟨g, g1, g2⟩ := turn_fn ht
  refine (grid (F2 := fun next2 s => pix_turned_l2 ⟨w, h, l⟩ ⟨turnW t w h, turnH t w h, fill3 (turnW t w h) (turnH t w h) (turnPx t w h l) 0⟩ t next2 s.1 s.2.1 s.2.2)
    (G := fun y next next4 s => pix_turned_l4 ⟨w, h, l⟩ ⟨turnW t w h, turnH t w h, fill3 (turnW t w h) (turnH t w h) (turnPx t w h l) 0⟩ t (y : Int) l next next4 s.1 s.2)
    (turnW t w h) (turnH t w h) (fill3 (turnW t w h) (turnH t w h) (turnPx t w h l)) (fun q => (l, q)) (fun q => some ⟨turnW t w h, turnH t w h, q⟩) (fun next y hy => ?_) (fun next => ?_) (fun y next next4 x hy hx => ?_) (fun y next next4 hy => ?_)).trans ?_
  · show pix_turned_l2 _ _ _ next (y : Int) l _ = _
    unfold pix_turned_l2
    rw [cnd_if, if_pos (by simp only; omega)]
  · show pix_turned_l2 _ _ _ next _ l _ = _
    unfold pix_turned_l2
    rw [cnd_if, if_neg (by simp only; omega)]; rfl
  · show pix_turned_l4 _ _ _ _ l next next4 (x : Int) _ = _
    unfold pix_turned_l4
    obtain ⟨a, b, e1, ha, hb⟩ := srcN ht hx hy
    rw [cnd_if, if_pos (by simp only; omega), g1, bnd_pure]
    simp only
    rw [g2 _ _ _ _ (by omega) (by omega) (by omega) (by omega), bnd_pure, e1]
    simp only
    rw [pix_at_eq m ha hb, bnd_pure, pix_set_eq hpx hB hx hy (px := turnPx t w h l) (by
      have h1 := idx_lt ha hb
      have h3 := m.len
      rw [range_ofL (by rw [List.length_drop]; omega)]
      unfold turnPx pxN
      rw [e1]; simp only [Int.toNat_natCast]), bnd_pure, gI_ok (by omega), bnd_pure]
  · show pix_turned_l4 _ _ _ _ l next next4 _ _ = _
    unfold pix_turned_l4 pix_turned_j3
    rw [cnd_if, if_neg (by simp only; omega), gI_ok (by omega), bnd_pure, Nat.succ_mul]
  · rw [fill3_all]

end Go.M
