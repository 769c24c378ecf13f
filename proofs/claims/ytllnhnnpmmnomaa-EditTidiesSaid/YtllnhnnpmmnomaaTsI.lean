/- Plain lemmas about images: turned, cropped and scaled ones, pixel by pixel. Conditions: those that each lemma names. -/
import Derived.Test.YtllnhnnpmmnomaaTsP
namespace Go.M
open Go.Md Go.Pl

/-! ### two loops within one another -/

theorem grid {ρ σ τ : Type} (w h : Nat) (st : Nat → τ) (e : τ → σ) (J : τ → Option ρ) {F2 : (Int × σ → Option ρ) → Int × σ → Option ρ} {G : Nat → (Int × σ → Option ρ) → (Int × τ → Option ρ) → Int × τ → Option ρ}
    (ho : ∀ next (y : Nat), y < h → F2 next ((y : Int), e (st (y * w))) = fix (G y next) (0, st (y * w)))
    (hd : ∀ next, F2 next ((h : Int), e (st (h * w))) = J (st (h * w)))
    (hi : ∀ y next next4 (x : Nat), y < h → x < w → G y next next4 ((x : Int), st (y * w + x)) = next4 ((x : Int) + 1, st (y * w + x + 1)))
    (hr : ∀ y next next4, y < h → G y next next4 ((w : Int), st (y * w + w)) = next ((y : Int) + 1, e (st ((y + 1) * w)))) : fix F2 (0, e (st 0)) = J (st (h * w)) := by
  refine up2 (F := F2) h (fun _ _ => J (st (h * w))) (fun y s => s = e (st (y * w))) (fun next y s hy hs ih => ?_) (e (st 0)) (by simp)
  subst hs
  by_cases hlt : y < h
  · rw [ho next y hlt]
    have inner := up2 (F := G y next) w (fun _ _ => next ((y : Int) + 1, e (st ((y + 1) * w)))) (fun x s => s = st (y * w + x)) (fun next4 x s hx hs ih4 => by
      subst hs
      by_cases hxl : x < w
      · rw [hi y next next4 x hlt hxl]; exact ih4 _ hxl rfl
      · have : x = w := by omega
        subst this
        exact hr y next next4 hlt) (st (y * w)) (by simp)
    rw [inner]
    exact ih _ hlt rfl
  · have : y = h := by omega
    subst this
    exact hd next

/-! ### images -/

/-- The first n pixels. -/
def pre3 (w : Nat) (px : Nat → Nat → List Int) (n : Nat) : List Int := (List.range n).flatMap fun k => px (k % w) (k / w)

theorem pre3_succ (w : Nat) (px : Nat → Nat → List Int) (n : Nat) : pre3 w px (n + 1) = pre3 w px n ++ px (n % w) (n / w) := by
  unfold pre3; rw [List.range_succ, List.flatMap_append]; simp
theorem pre3_at (w : Nat) (px : Nat → Nat → List Int) {x y : Nat} (hx : x < w) : pre3 w px (y * w + x + 1) = pre3 w px (y * w + x) ++ px x y := by
  rw [pre3_succ]
  have h1 : (y * w + x) % w = x := by rw [Nat.mul_comm, Nat.mul_add_mod]; exact Nat.mod_eq_of_lt hx
  have h2 : (y * w + x) / w = y := by rw [Nat.mul_comm, Nat.mul_add_div (by omega), Nat.div_eq_of_lt hx, Nat.add_zero]
  rw [h1, h2]
theorem pre3_len (w : Nat) {px : Nat → Nat → List Int} : ∀ n, (∀ k, k < n → (px (k % w) (k / w)).length = 3) → (pre3 w px n).length = 3 * n
  | 0, _ => rfl
  | n + 1, h => by rw [pre3_succ, List.length_append, pre3_len w n fun k hk => h k (by omega), h n (by omega)]; omega

theorem idx_lt {w h a b : Nat} (ha : a < w) (hb : b < h) : b * w + a + 1 ≤ w * h := by
  have h1 : (b + 1) * w ≤ h * w := Nat.mul_le_mul_right _ hb
  rw [Nat.succ_mul] at h1; rw [Nat.mul_comm w h]; omega

/-- An image that is right. -/
structure Im (w h : Nat) (l : List Int) : Prop where
  w1 : 1 ≤ w
  w2 : w ≤ 64
  h1 : 1 ≤ h
  h2 : h ≤ 64
  len : l.length = 3 * (w * h)
  byte : ∀ v ∈ l, 0 ≤ v ∧ v ≤ 255

theorem Im.area {w h : Nat} {l : List Int} (m : Im w h l) : w * h ≤ 4096 := Nat.mul_le_mul m.w2 m.h2
theorem Im.pos {w h : Nat} {l : List Int} (m : Im w h l) : 1 ≤ w * h := Nat.mul_le_mul m.w1 m.h1

/-- The pixel in a place. -/
def pxN (w : Nat) (l : List Int) (a b : Nat) : List Int := (l.drop (3 * (b * w + a))).take 3

theorem pxN_len {w h : Nat} {l : List Int} (m : Im w h l) {a b : Nat} (ha : a < w) (hb : b < h) : (pxN w l a b).length = 3 := by
  have := idx_lt ha hb; have := m.len
  unfold pxN; rw [List.length_take, List.length_drop]; omega
theorem pxN_byte {w h : Nat} {l : List Int} (m : Im w h l) {a b : Nat} : ∀ v ∈ pxN w l a b, 0 ≤ v ∧ v ≤ 255 := fun v hv => m.byte v (List.mem_of_mem_drop (List.mem_of_mem_take hv))

theorem range_ofL {l : List Int} (h : 3 ≤ l.length) : (List.range 3).map (ofL l) = l.take 3 := by
  match l, h with
  | a :: b :: c :: r, _ => rfl

theorem gIN {a : Int} {n : Nat} (h : a = (n : Int)) (hn : n ≤ 1000000000) : gI a = some (n : Int) := by rw [h]; exact gI_ok (by omega)

theorem pix_at_eq {w h : Nat} {l : List Int} (m : Im w h l) {a b : Nat} (ha : a < w) (hb : b < h) : pix_at ⟨w, h, l⟩ (a : Int) (b : Int) = some (ofL (l.drop (3 * (b * w + a)))) := by
  have h1 := idx_lt ha hb
  have h2 := m.area
  have h3 := m.len
  unfold pix_at
  simp only
  rw [gIN (n := b * w) (by rw [Int.natCast_mul]) (by omega), bnd_pure, gIN (n := b * w + a) (by rw [Int.natCast_add]) (by omega), bnd_pure, gIN (n := 3 * (b * w + a)) (by rw [Int.natCast_mul]; rfl) (by omega), bnd_pure,
    gCut_from (by omega), bnd_pure, Int.toNat_natCast, gIf_ok (by rw [List.length_drop]; omega), bnd_pure]

theorem R1_pixel_eq {w h : Nat} {l : List Int} (m : Im w h l) {a b : Nat} (ha : a < w) (hb : b < h) : R1_pixel ⟨w, h, l⟩ (a : Int) (b : Int) = some (pxN w l a b) := by
  have h1 := idx_lt ha hb
  have h2 := m.area
  have h3 := m.len
  unfold R1_pixel pxN
  simp only
  rw [gIN (n := b * w) (by rw [Int.natCast_mul]) (by omega), bnd_pure, gIN (n := b * w + a) (by rw [Int.natCast_add]) (by omega), bnd_pure, gIN (n := 3 * (b * w + a)) (by rw [Int.natCast_mul]; rfl) (by omega), bnd_pure,
    bnd_pure, gIN (n := b * w + a) (by rw [Int.natCast_add]) (by omega), bnd_pure, gIN (n := 3 * (b * w + a)) (by rw [Int.natCast_mul]; rfl) (by omega), bnd_pure, gIN (n := 3 * (b * w + a) + 3) (by rw [Int.natCast_add]; rfl) (by omega), bnd_pure, gCut_ok (by omega), bnd_pure, Int.toNat_natCast, Int.toNat_natCast]
  congr 2; omega

theorem cpyL_mid {P Z q : List Int} {n : Nat} (hP : P.length = n) (hq : q.length = 3) (hZ : 3 ≤ Z.length) : cpyL (P ++ Z) (n : Int) Z.length q = P ++ q ++ Z.drop 3 := by
  subst hP
  unfold cpyL
  rw [Int.toNat_natCast, List.take_left, List.take_of_length_le (by omega), hq, Nat.min_eq_right hZ, List.drop_append, List.append_assoc]
  simp

/-- What is built so far: n pixels, and zeros. -/
def fill3 (w h : Nat) (px : Nat → Nat → List Int) (n : Nat) : List Int := pre3 w px n ++ List.replicate (3 * (w * h - n)) 0

theorem pix_set_eq {w h : Nat} {px : Nat → Nat → List Int} (hpx : ∀ k, k < w * h → (px (k % w) (k / w)).length = 3) (hw : w * h ≤ 4096) {x y : Nat} (hx : x < w) (hy : y < h) {p : Nat → Int} (hp : (List.range 3).map p = px x y) :
    pix_set ⟨w, h, fill3 w h px (y * w + x)⟩ (x : Int) (y : Int) p = some (fill3 w h px (y * w + x + 1)) := by
  have h1 := idx_lt hx hy
  have hl : (pre3 w px (y * w + x)).length = 3 * (y * w + x) := pre3_len w _ fun k hk => hpx k (by omega)
  have hq : (px x y).length = 3 := by rw [← hp]; rfl
  have hlen : (fill3 w h px (y * w + x)).length = 3 * (w * h) := by unfold fill3; rw [List.length_append, hl, List.length_replicate]; omega
  unfold pix_set
  simp only
  rw [gIN (n := y * w) (by rw [Int.natCast_mul]) (by omega), bnd_pure, gIN (n := y * w + x) (by rw [Int.natCast_add]) (by omega), bnd_pure, gIN (n := 3 * (y * w + x)) (by rw [Int.natCast_mul]; rfl) (by omega), bnd_pure,
    gCut_from (by omega), bnd_pure, Int.toNat_natCast, hp]
  have hz : (fill3 w h px (y * w + x)).drop (3 * (y * w + x)) = List.replicate (3 * (w * h - (y * w + x))) 0 := by
    unfold fill3; rw [← hl, List.drop_left]
  rw [hz]
  congr 1
  have := cpyL_mid (P := pre3 w px (y * w + x)) (Z := List.replicate (3 * (w * h - (y * w + x))) 0) (q := px x y) hl hq (by rw [List.length_replicate]; omega)
  unfold fill3
  rw [this, pre3_at w px hx, List.drop_replicate]
  congr 2; omega

theorem blank_eq {w h : Nat} (hw : w * h ≤ 4096) (hw2 : w ≤ 4096) (px : Nat → Nat → List Int) : pix_blank (w : Int) (h : Int) = some ⟨w, h, fill3 w h px 0⟩ := by
  unfold pix_blank
  rw [gIN (n := 3 * w) (by rw [Int.natCast_mul]; rfl) (by omega), bnd_pure, gIN (n := 3 * w * h) (by rw [Int.natCast_mul, Int.natCast_mul]; rfl) (by rw [Nat.mul_assoc]; omega), bnd_pure]
  rw [gMake_ok (by rw [Nat.mul_assoc, Int.toNat_natCast]; omega), bnd_pure, Int.toNat_natCast]
  congr 2
  unfold fill3 pre3
  rw [Nat.mul_assoc]; simp

/-- The whole image. -/
def imgL (w h : Nat) (px : Nat → Nat → List Int) : List Int := pre3 w px (w * h)

theorem fill3_all (w h : Nat) (px : Nat → Nat → List Int) : fill3 w h px (h * w) = imgL w h px := by
  unfold fill3 imgL; rw [Nat.mul_comm h w, Nat.sub_self]; simp

theorem imgL_im {w h : Nat} {px : Nat → Nat → List Int} (hw : 1 ≤ w ∧ w ≤ 64) (hh : 1 ≤ h ∧ h ≤ 64) (hpx : ∀ x y, x < w → y < h → (px x y).length = 3 ∧ ∀ v ∈ px x y, 0 ≤ v ∧ v ≤ 255) : Im w h (imgL w h px) := by
  have hk : ∀ k, k < w * h → k % w < w ∧ k / w < h := fun k hk => ⟨Nat.mod_lt _ (by omega), Nat.div_lt_of_lt_mul hk⟩
  refine ⟨hw.1, hw.2, hh.1, hh.2, pre3_len w _ fun k hk' => (hpx _ _ (hk k hk').1 (hk k hk').2).1, fun v hv => ?_⟩
  unfold imgL pre3 at hv
  obtain ⟨k, hk', hv⟩ := List.mem_flatMap.1 hv
  have := hk k (List.mem_range.1 hk')
  exact (hpx _ _ this.1 this.2).2 v hv

/-! ### turned -/

theorem srcN {t w h x y : Nat} (ht : 1 ≤ t ∧ t ≤ 8) (hx : x < if 5 ≤ t then h else w) (hy : y < if 5 ≤ t then w else h) : ∃ a b : Nat, srcS t w h x y = ((a : Int), (b : Int)) ∧ a < w ∧ b < h := by
  have ht' : t = 1 ∨ t = 2 ∨ t = 3 ∨ t = 4 ∨ t = 5 ∨ t = 6 ∨ t = 7 ∨ t = 8 := by omega
  rcases ht' with rfl | rfl | rfl | rfl | rfl | rfl | rfl | rfl
  all_goals simp only [(by decide : (5 ≤ 1) = False), (by decide : (5 ≤ 2) = False), (by decide : (5 ≤ 3) = False), (by decide : (5 ≤ 4) = False), (by decide : (5 ≤ 5) = True), (by decide : (5 ≤ 6) = True), (by decide : (5 ≤ 7) = True), (by decide : (5 ≤ 8) = True), if_true, if_false] at hx hy
  · exact ⟨x, y, rfl, hx, hy⟩
  · exact ⟨w - 1 - x, y, by show ((w : Int) - 1 - x, (y : Int)) = _; congr 1; omega, by omega, hy⟩
  · exact ⟨w - 1 - x, h - 1 - y, by show ((w : Int) - 1 - x, (h : Int) - 1 - y) = _; congr 1 <;> omega, by omega, by omega⟩
  · exact ⟨x, h - 1 - y, by show ((x : Int), (h : Int) - 1 - y) = _; congr 1; omega, hx, by omega⟩
  · exact ⟨y, x, rfl, hy, hx⟩
  · exact ⟨y, h - 1 - x, by show ((y : Int), (h : Int) - 1 - x) = _; congr 1; omega, hy, by omega⟩
  · exact ⟨w - 1 - y, h - 1 - x, by show ((w : Int) - 1 - y, (h : Int) - 1 - x) = _; congr 1 <;> omega, by omega, by omega⟩
  · exact ⟨w - 1 - y, x, by show ((w : Int) - 1 - y, (x : Int)) = _; congr 1; omega, by omega, hx⟩

theorem turn_fn {t : Nat} (ht : 1 ≤ t ∧ t ≤ 8) : ∃ g, gFn (pix_turnings_tab0 t) = some g ∧ ∀ w h x y : Int, (-1000 ≤ w ∧ w ≤ 1000) → (-1000 ≤ h ∧ h ≤ 1000) → (-1000 ≤ x ∧ x ≤ 1000) → (-1000 ≤ y ∧ y ≤ 1000) → g w h x y = some (srcS t w h x y) := by
  have ht' : t = 1 ∨ t = 2 ∨ t = 3 ∨ t = 4 ∨ t = 5 ∨ t = 6 ∨ t = 7 ∨ t = 8 := by omega
  rcases ht' with rfl | rfl | rfl | rfl | rfl | rfl | rfl | rfl
  · exact ⟨pix_turnings_1, rfl, fun w h x y _ _ _ _ => rfl⟩
  · exact ⟨pix_turnings_2, rfl, fun w h x y _ _ _ _ => by unfold pix_turnings_2; rw [gI_ok (by omega), bnd_pure, gI_ok (by omega), bnd_pure]; rfl⟩
  · exact ⟨pix_turnings_3, rfl, fun w h x y _ _ _ _ => by unfold pix_turnings_3; rw [gI_ok (by omega), bnd_pure, gI_ok (by omega), bnd_pure, gI_ok (by omega), bnd_pure, gI_ok (by omega), bnd_pure]; rfl⟩
  · exact ⟨pix_turnings_4, rfl, fun w h x y _ _ _ _ => by unfold pix_turnings_4; rw [gI_ok (by omega), bnd_pure, gI_ok (by omega), bnd_pure]; rfl⟩
  · exact ⟨pix_turnings_5, rfl, fun w h x y _ _ _ _ => rfl⟩
  · exact ⟨pix_turnings_6, rfl, fun w h x y _ _ _ _ => by unfold pix_turnings_6; rw [gI_ok (by omega), bnd_pure, gI_ok (by omega), bnd_pure]; rfl⟩
  · exact ⟨pix_turnings_7, rfl, fun w h x y _ _ _ _ => by unfold pix_turnings_7; rw [gI_ok (by omega), bnd_pure, gI_ok (by omega), bnd_pure, gI_ok (by omega), bnd_pure, gI_ok (by omega), bnd_pure]; rfl⟩
  · exact ⟨pix_turnings_8, rfl, fun w h x y _ _ _ _ => by unfold pix_turnings_8; rw [gI_ok (by omega), bnd_pure, gI_ok (by omega), bnd_pure]; rfl⟩

theorem R1_from_eq {t w h x y : Int} (hw : -1000 ≤ w ∧ w ≤ 1000) (hh : -1000 ≤ h ∧ h ≤ 1000) (hx : -1000 ≤ x ∧ x ≤ 1000) (hy : -1000 ≤ y ∧ y ≤ 1000) : R1_from t w h x y = some (srcS t w h x y) := by
  have g : ∀ a b : Int, -2001 ≤ a ∧ a ≤ 2000 → -1000 ≤ b ∧ b ≤ 1000 → gI (a - b) = some (a - b) := fun a b h1 h2 => gI_ok (by omega)
  unfold R1_from srcS
  rw [g w 1 (by omega) (by omega), g h 1 (by omega) (by omega)]
  simp only [bnd_pure, cnd_if]
  rw [g (w - 1) x (by omega) (by omega), g (h - 1) x (by omega) (by omega), g (w - 1) y (by omega) (by omega), g (h - 1) y (by omega) (by omega)]
  simp only [bnd_pure]
  repeat' split
  all_goals rfl

/-- The pixels of a turned image. -/
def turnPx (t w h : Nat) (l : List Int) (x y : Nat) : List Int := pxN w l (srcS t w h x y).1.toNat (srcS t w h x y).2.toNat
def turnW (t w h : Nat) : Nat := if 5 ≤ t then h else w
def turnH (t w h : Nat) : Nat := if 5 ≤ t then w else h

theorem turn_area (t w h : Nat) : turnW t w h * turnH t w h = w * h := by
  unfold turnW turnH; split
  · exact Nat.mul_comm _ _
  · rfl

theorem turnPx_ok {t w h : Nat} {l : List Int} (m : Im w h l) (ht : 1 ≤ t ∧ t ≤ 8) {x y : Nat} (hx : x < turnW t w h) (hy : y < turnH t w h) : (turnPx t w h l x y).length = 3 ∧ ∀ v ∈ turnPx t w h l x y, 0 ≤ v ∧ v ≤ 255 := by
  obtain ⟨a, b, e, ha, hb⟩ := srcN ht hx hy
  unfold turnPx
  rw [e]
  exact ⟨pxN_len m ha hb, pxN_byte m⟩

theorem pix_turned_eq {t w h : Nat} {l : List Int} (m : Im w h l) (ht : 1 ≤ t ∧ t ≤ 8) : pix_turned ⟨w, h, l⟩ (t : Int) = some ⟨turnW t w h, turnH t w h, imgL (turnW t w h) (turnH t w h) (turnPx t w h l)⟩ := by
  have hA := m.area
  have hw := m.w2
  have hh := m.h2
  have hW : turnW t w h ≤ 64 := by unfold turnW; split <;> omega
  have hH : turnH t w h ≤ 64 := by unfold turnH; split <;> omega
  have hB : turnW t w h * turnH t w h ≤ 4096 := by rw [turn_area]; exact hA
  have hpx : ∀ k, k < turnW t w h * turnH t w h → (turnPx t w h l (k % turnW t w h) (k / turnW t w h)).length = 3 := fun k hk =>
    (turnPx_ok m ht (Nat.mod_lt _ (by have := m.w1; have := m.h1; unfold turnW; split <;> omega)) (Nat.div_lt_of_lt_mul hk)).1
  unfold pix_turned
  have hs : pix_Sides (t : Int) (w : Int) (h : Int) = some (((turnW t w h : Nat) : Int), ((turnH t w h : Nat) : Int)) := by
    unfold pix_Sides pix_turnings turnW turnH
    rw [bnd_pure, gIx_ok (by omega), bnd_pure, Int.toNat_natCast]
    have ht' : t = 1 ∨ t = 2 ∨ t = 3 ∨ t = 4 ∨ t = 5 ∨ t = 6 ∨ t = 7 ∨ t = 8 := by omega
    rcases ht' with rfl | rfl | rfl | rfl | rfl | rfl | rfl | rfl <;> rfl
  simp only
  rw [hs, bnd_pure, blank_eq hB (by omega) (turnPx t w h l), bnd_pure]
  unfold pix_turnings
  rw [bnd_pure, gIx_ok (by omega), bnd_pure, Int.toNat_natCast]
  obtain ⟨g, g1, g2⟩ := turn_fn ht
  refine (grid (F2 := fun next2 s => pix_turned_l2 ⟨w, h, l⟩ ⟨turnW t w h, turnH t w h, fill3 (turnW t w h) (turnH t w h) (turnPx t w h l) 0⟩ t next2 s.1 s.2.1 s.2.2)
    (G := fun y next next4 s => pix_turned_l4 ⟨w, h, l⟩ ⟨turnW t w h, turnH t w h, fill3 (turnW t w h) (turnH t w h) (turnPx t w h l) 0⟩ t (y : Int) l next next4 s.1 s.2)
    (turnW t w h) (turnH t w h) (fill3 (turnW t w h) (turnH t w h) (turnPx t w h l)) (fun q => (l, q)) (fun q => some ⟨turnW t w h, turnH t w h, q⟩) (fun next y hy => ?_) (fun next => ?_) (fun y next next4 x hy hx => ?_) (fun y next next4 hy => ?_)).trans ?_
  · show pix_turned_l2 _ _ _ next (y : Int) l _ = _
    unfold pix_turned_l2
    rw [cnd_if, if_pos (by simp only; omega)]
  · show pix_turned_l2 _ _ _ next _ l _ = _
    unfold pix_turned_l2
    rw [cnd_if, if_neg (by simp only; omega)]; rfl
  · show pix_turned_l4 _ _ _ _ l next next4 (x : Int) _ = _
    unfold pix_turned_l4
    obtain ⟨a, b, e1, ha, hb⟩ := srcN ht hx hy
    rw [cnd_if, if_pos (by simp only; omega), g1, bnd_pure]
    simp only
    rw [g2 _ _ _ _ (by omega) (by omega) (by omega) (by omega), bnd_pure, e1]
    simp only
    rw [pix_at_eq m ha hb, bnd_pure, pix_set_eq hpx hB hx hy (px := turnPx t w h l) (by
      have h1 := idx_lt ha hb
      have h3 := m.len
      rw [range_ofL (by rw [List.length_drop]; omega)]
      unfold turnPx pxN
      rw [e1]; simp only [Int.toNat_natCast]), bnd_pure, gI_ok (by omega), bnd_pure]
  · show pix_turned_l4 _ _ _ _ l next next4 _ _ = _
    unfold pix_turned_l4 pix_turned_j3
    rw [cnd_if, if_neg (by simp only; omega), gI_ok (by omega), bnd_pure, Nat.succ_mul]
  · rw [fill3_all]

theorem R1_Turned_eq {t w h : Nat} {l : List Int} (m : Im w h l) (ht : 1 ≤ t ∧ t ≤ 8) : R1_Turned ⟨w, h, l⟩ (t : Int) = some ⟨turnW t w h, turnH t w h, imgL (turnW t w h) (turnH t w h) (turnPx t w h l)⟩ := by
  have hA := m.area
  have hw := m.w2
  have hh := m.h2
  have hW : turnW t w h ≤ 64 := by unfold turnW; split <;> omega
  have hH : turnH t w h ≤ 64 := by unfold turnH; split <;> omega
  have hB : turnW t w h * turnH t w h ≤ 4096 := by rw [turn_area]; exact hA
  have hpx : ∀ k, k < turnW t w h * turnH t w h → (turnPx t w h l (k % turnW t w h) (k / turnW t w h)).length = 3 := fun k hk =>
    (turnPx_ok m ht (Nat.mod_lt _ (by have := m.w1; have := m.h1; unfold turnW; split <;> omega)) (Nat.div_lt_of_lt_mul hk)).1
  have hj : R1_Turned ⟨w, h, l⟩ (t : Int) = R1_Turned_j1 ⟨w, h, l⟩ (t : Int) (turnW t w h : Nat) (turnH t w h : Nat) := by
    unfold R1_Turned turnW turnH
    rw [cnd_if]
    by_cases h5 : 5 ≤ t
    · rw [if_pos (by omega), if_pos h5, if_pos h5]
    · rw [if_neg (by omega), if_neg h5, if_neg h5]
  rw [hj]
  unfold R1_Turned_j1
  refine (grid (F2 := fun next3 s => R1_Turned_l3 ⟨w, h, l⟩ (t : Int) (turnW t w h : Nat) (turnH t w h : Nat) next3 s.1 s.2)
    (G := fun y next next5 s => R1_Turned_l5 ⟨w, h, l⟩ (t : Int) (turnW t w h : Nat) (y : Int) next next5 s.1 s.2)
    (turnW t w h) (turnH t w h) (pre3 (turnW t w h) (turnPx t w h l)) (fun q => q) (fun q => some ⟨turnW t w h, turnH t w h, q⟩) (fun next y hy => ?_) (fun next => ?_) (fun y next next4 x hy hx => ?_) (fun y next next4 hy => ?_)).trans ?_
  · show R1_Turned_l3 _ _ _ _ next (y : Int) _ = _
    unfold R1_Turned_l3
    rw [cnd_if, if_pos (by omega)]
  · show R1_Turned_l3 _ _ _ _ next _ _ = _
    unfold R1_Turned_l3
    rw [cnd_if, if_neg (by omega)]; rfl
  · show R1_Turned_l5 _ _ _ _ next next4 (x : Int) _ = _
    unfold R1_Turned_l5
    obtain ⟨a, b, e1, ha, hb⟩ := srcN ht hx hy
    have h1 := idx_lt hx hy
    rw [cnd_if, if_pos (by omega)]
    simp only
    rw [R1_from_eq (by omega) (by omega) (by omega) (by omega), bnd_pure, e1]
    simp only
    have hl := pre3_len (turnW t w h) (px := turnPx t w h l) (y * turnW t w h + x) fun k hk => hpx k (by omega)
    rw [R1_pixel_eq m ha hb, bnd_pure, gApp_ok (by rw [hl, pxN_len m ha hb]; omega), bnd_pure, gI_ok (by omega), bnd_pure, pre3_at _ _ hx]
    unfold turnPx
    rw [e1]; simp only [Int.toNat_natCast]
  · show R1_Turned_l5 _ _ _ _ next next4 _ _ = _
    unfold R1_Turned_l5 R1_Turned_j4
    rw [cnd_if, if_neg (by omega), gI_ok (by omega), bnd_pure, Nat.succ_mul]
  · unfold imgL; rw [Nat.mul_comm]

end Go.M

/- Plain lemmas about images: checked and cropped ones, and tone steps. Conditions: those that each lemma names. -/
namespace Go.M
open Go.Md Go.Pl

theorem pix_outside_eq (a b c : Int) : pix_outside a b c = some (decide (a < b) || decide (c < a)) := by
  unfold pix_outside
  rw [cnd_if]
  by_cases h : a < b
  · rw [if_pos h, decide_eq_true h]; rfl
  · rw [if_neg h, decide_eq_false h]; rfl

/-- What is wrong with an image. -/
def imgE (m : T_api_Image) : Int := if m.W < 1 ∨ 64 < m.W ∨ m.H < 1 ∨ 64 < m.H then 2 else if (m.Pixels.length : Int) ≠ 3 * m.W * m.H then 1 else 0

theorem area_in {a b : Int} (ha : 1 ≤ a ∧ a ≤ 64) (hb : 1 ≤ b ∧ b ≤ 64) : 0 ≤ 3 * a * b ∧ 3 * a * b ≤ 100000 := by
  obtain ⟨x, rfl⟩ := Int.eq_ofNat_of_zero_le (show 0 ≤ a by omega)
  obtain ⟨y, rfl⟩ := Int.eq_ofNat_of_zero_le (show 0 ≤ b by omega)
  have h : 3 * x * y ≤ 192 * 64 := Nat.mul_le_mul (by omega) (by omega)
  have e : 3 * (x : Int) * (y : Int) = ((3 * x * y : Nat) : Int) := by rw [Int.natCast_mul, Int.natCast_mul]; rfl
  rw [e]; omega

theorem imgE_im {m : T_api_Image} (h : imgE m = 0) (hb : ∀ v ∈ m.Pixels, 0 ≤ v ∧ v ≤ 255) : ∃ w h : Nat, m = ⟨w, h, m.Pixels⟩ ∧ Im w h m.Pixels := by
  unfold imgE at h
  split at h
  · cases h
  · split at h
    · cases h
    · rename_i h1 h2
      obtain ⟨W, H, P⟩ := m
      simp only at h1 h2 hb ⊢
      obtain ⟨x, rfl⟩ := Int.eq_ofNat_of_zero_le (show 0 ≤ W by omega)
      obtain ⟨y, rfl⟩ := Int.eq_ofNat_of_zero_le (show 0 ≤ H by omega)
      refine ⟨x, y, rfl, by omega, by omega, by omega, by omega, ?_, hb⟩
      have e : 3 * (x : Int) * (y : Int) = ((3 * (x * y) : Nat) : Int) := by rw [Int.natCast_mul, Int.natCast_mul, Int.mul_assoc]; rfl
      rw [e] at h2; omega

theorem im_imgE {w h : Nat} {l : List Int} (m : Im w h l) : imgE ⟨w, h, l⟩ = 0 := by
  have := m.w1; have := m.w2; have := m.h1; have := m.h2; have h3 := m.len
  unfold imgE
  simp only
  rw [if_neg (by omega), if_neg]
  have e : 3 * (w : Int) * (h : Int) = ((3 * (w * h) : Nat) : Int) := by rw [Int.natCast_mul, Int.natCast_mul, Int.mul_assoc]; rfl
  rw [e]; omega

theorem turn_im {t w h : Nat} {l : List Int} (m : Im w h l) (ht : 1 ≤ t ∧ t ≤ 8) : Im (turnW t w h) (turnH t w h) (imgL (turnW t w h) (turnH t w h) (turnPx t w h l)) := by
  have := m.w1; have := m.w2; have := m.h1; have := m.h2
  exact imgL_im (by unfold turnW; split <;> omega) (by unfold turnH; split <;> omega) fun x y hx hy => turnPx_ok m ht hx hy

/-- Turn 1 turns nothing. -/
theorem turn_one {w h : Nat} {l : List Int} (m : Im w h l) : imgL w h (turnPx 1 w h l) = l := by
  have key : ∀ n, n ≤ w * h → pre3 w (turnPx 1 w h l) n = l.take (3 * n) := by
    intro n
    induction n with
    | zero => intro _; rfl
    | succ n ih =>
      intro hn
      rw [pre3_succ, ih (by omega)]
      show l.take (3 * n) ++ pxN w l ((n % w : Nat) : Int).toNat ((n / w : Nat) : Int).toNat = _
      unfold pxN
      rw [Int.toNat_natCast, Int.toNat_natCast, Nat.mul_comm (n / w) w, Nat.div_add_mod, show 3 * (n + 1) = 3 * n + 3 from by omega, List.take_add]
  have h1 := key (w * h) (Nat.le_refl _)
  unfold imgL
  rw [h1, List.take_of_length_le (by rw [m.len]; omega)]

/-! ### cropped -/

def cropPx (w : Nat) (l : List Int) (a b : Nat) (x y : Nat) : List Int := pxN w l (a + x) (b + y)

theorem crop_im {w h a b c d : Nat} {l : List Int} (m : Im w h l) (hc : 1 ≤ c ∧ a + c ≤ w) (hd : 1 ≤ d ∧ b + d ≤ h) : Im c d (imgL c d (cropPx w l a b)) := by
  have := m.w2; have := m.h2
  exact imgL_im (by omega) (by omega) fun x y hx hy => ⟨pxN_len m (by omega) (by omega), pxN_byte m⟩

/-! ### tone steps -/

/-- A loop in steps of three. -/
theorem by3 {ρ : Type} {F : (Int × List Int → Option ρ) → Int × List Int → Option ρ} (n : Nat) (st : Nat → List Int) (J : List Int → Option ρ)
    (step : ∀ next k, k < n → F next (((3 * k : Nat) : Int), st k) = next (((3 * k : Nat) : Int) + 3, st (k + 1))) (last : ∀ next, F next (((3 * n : Nat) : Int), st n) = J (st n)) : fix F (0, st 0) = J (st n) := by
  refine fix_of (F := F) (fun _ => J (st n)) (fun s => ∃ k : Nat, k ≤ n ∧ s = (((3 * k : Nat) : Int), st k)) (fun s => 3 * n - s.1.toNat) ?_ (0, st 0) ⟨0, by omega, rfl⟩
  rintro next _ ⟨k, hk, rfl⟩ ih
  by_cases h : k < n
  · rw [step next k h]
    exact ih _ ⟨k + 1, by omega, by rw [show 3 * (k + 1) = 3 * k + 3 from by omega]; rfl⟩ (by simp only; omega)
  · have : k = n := by omega
    subst this
    exact last next

theorem dotS_cg {s : T_edit_Step} {p q : Nat → Int} (h : ∀ j, j < 3 → p j = q j) {j : Nat} (hj : j < 3) : dotS s p j = dotS s q j := by
  unfold dotS
  rw [h 0 (by omega), h 1 (by omega), h 2 (by omega), h j hj]

def triS (l : List Int) (k : Nat) : Nat → Int := ofL (l.drop (3 * k))
def tone3 (s : T_edit_Step) (l : List Int) (k : Nat) : List Int := [dotS s (triS l k) 0, dotS s (triS l k) 1, dotS s (triS l k) 2]
def toneP (s : T_edit_Step) (l : List Int) (n : Nat) : List Int := (List.range n).flatMap (tone3 s l)
def toneSt (s : T_edit_Step) (l : List Int) (k : Nat) : List Int := toneP s l k ++ l.drop (3 * k)

theorem toneP_succ (s : T_edit_Step) (l : List Int) (n : Nat) : toneP s l (n + 1) = toneP s l n ++ tone3 s l n := by
  unfold toneP; rw [List.range_succ, List.flatMap_append]; simp
theorem toneP_len (s : T_edit_Step) (l : List Int) : ∀ n, (toneP s l n).length = 3 * n
  | 0 => rfl
  | n + 1 => by rw [toneP_succ, List.length_append, toneP_len s l n]; show _ + 3 = _; omega
theorem toneSt_len {s : T_edit_Step} {l : List Int} {n k : Nat} (hl : l.length = 3 * n) (hk : k ≤ n) : (toneSt s l k).length = 3 * n := by
  unfold toneSt; rw [List.length_append, toneP_len, List.length_drop]; omega
theorem toneSt_all {s : T_edit_Step} {l : List Int} {n : Nat} (hl : l.length = 3 * n) : toneSt s l n = toneP s l n := by
  unfold toneSt; rw [List.drop_of_length_le (by omega), List.append_nil]

theorem tri_byte {l : List Int} {n k : Nat} (hl : l.length = 3 * n) (hb : ∀ v ∈ l, 0 ≤ v ∧ v ≤ 255) (hk : k < n) : byteArr 3 (triS l k) := fun j hj => by
  unfold triS ofL
  rw [List.getD_eq_getElem?_getD, List.getElem?_drop, List.getElem?_eq_getElem (by omega)]
  exact hb _ (List.getElem_mem _)

theorem toneP_byte {s : T_edit_Step} {l : List Int} {n : Nat} (hl : l.length = 3 * n) (hb : ∀ v ∈ l, 0 ≤ v ∧ v ≤ 255) : ∀ v ∈ toneP s l n, 0 ≤ v ∧ v ≤ 255 := fun v hv => by
  unfold toneP at hv
  obtain ⟨k, hk, hv⟩ := List.mem_flatMap.1 hv
  have ht := tri_byte hl hb (List.mem_range.1 hk)
  unfold tone3 at hv
  simp only [List.mem_cons, List.not_mem_nil, or_false] at hv
  rcases hv with rfl | rfl | rfl
  · exact dotS_in (ht 0 (by omega))
  · exact dotS_in (ht 1 (by omega))
  · exact dotS_in (ht 2 (by omega))

theorem tone_im {s : T_edit_Step} {w h : Nat} {l : List Int} (m : Im w h l) : Im w h (toneP s l (w * h)) := ⟨m.w1, m.w2, m.h1, m.h2, toneP_len s l _, toneP_byte m.len m.byte⟩

theorem drop_toneSt {s : T_edit_Step} {l : List Int} {k : Nat} : (toneSt s l k).drop (3 * k) = l.drop (3 * k) := by
  have e := List.drop_left (l₁ := toneP s l k) (l₂ := l.drop (3 * k))
  rw [toneP_len s l k] at e
  exact e

theorem set3 {P R : List Int} {n : Nat} (hP : P.length = n) (a b c x y z : Int) : (((P ++ x :: y :: z :: R).set n a).set (n + 1) b).set (n + 2) c = P ++ a :: b :: c :: R := by
  subst hP
  rw [List.set_append_right _ _ (Nat.le_refl _), Nat.sub_self, List.set_cons_zero, List.set_append_right _ _ (by omega), show P.length + 1 - P.length = 1 from by omega, List.set_append_right _ _ (by omega), show P.length + 2 - P.length = 2 from by omega]
  rfl

end Go.M
