/- Plain lemmas about images: scaled ones. Conditions: those that each lemma names. -/
import Derived.Test.YtilhbkglchppjaaDoorTsI
namespace Go.M
open Go.Md Go.Pl

/-! ### sums -/

def sumR (g : Nat → Int) : Nat → Nat → Int
  | _, 0 => 0
  | a, n + 1 => g a + sumR g (a + 1) n

theorem sumR_add (g : Nat → Int) : ∀ a n m, sumR g a (n + m) = sumR g a n + sumR g (a + n) m
  | a, 0, m => by simp [sumR]
  | a, n + 1, m => by
    rw [show n + 1 + m = (n + m) + 1 from by omega]
    simp only [sumR]
    rw [sumR_add g (a + 1) n m, show a + 1 + n = a + (n + 1) from by omega]; omega
theorem sumR_const {g : Nat → Int} {v : Int} : ∀ {a n}, (∀ i, a ≤ i → i < a + n → g i = v) → sumR g a n = v * n
  | a, 0, _ => by simp [sumR]
  | a, n + 1, h => by
    simp only [sumR]
    rw [h a (by omega) (by omega), sumR_const fun i h1 h2 => h i (by omega) (by omega), Int.natCast_add, Int.mul_add]; omega
theorem sumR_congr {g g' : Nat → Int} : ∀ {a n}, (∀ i, a ≤ i → i < a + n → g i = g' i) → sumR g a n = sumR g' a n
  | a, 0, _ => rfl
  | a, n + 1, h => by
    simp only [sumR]
    rw [h a (by omega) (by omega), sumR_congr fun i h1 h2 => h i (by omega) (by omega)]
theorem sumR_in {g : Nat → Int} {b : Int} : ∀ {a n}, (∀ i, a ≤ i → i < a + n → 0 ≤ g i ∧ g i ≤ b) → 0 ≤ sumR g a n ∧ sumR g a n ≤ b * n
  | a, 0, _ => by simp [sumR]
  | a, n + 1, h => by
    have h1 := h a (by omega) (by omega)
    have h2 := sumR_in (g := g) (b := b) (a := a + 1) (n := n) fun i h1 h2 => h i (by omega) (by omega)
    simp only [sumR]
    rw [Int.natCast_add, Int.mul_add]; omega

/-! ### shares -/

def shS (f : Nat → Int) (l : List T_pix_share) : Int := (l.map fun s => f s.at_.toNat * s.parts_).sum

theorem shS_snoc (f : Nat → Int) (l : List T_pix_share) (s : T_pix_share) : shS f (l ++ [s]) = shS f l + f s.at_.toNat * s.parts_ := by
  unfold shS; rw [List.map_append, List.sum_append]; simp

structure Sh (a b n : Nat) (l : List T_pix_share) : Prop where
  len : l.length ≤ 4096
  each : ∀ s ∈ l, ∃ k p : Nat, s = ⟨(k : Int), (p : Int)⟩ ∧ k < a ∧ p ≤ 64
  sum : ∀ f : Nat → Int, shS f l = sumR (fun i => f (i / b)) (a * n) a

theorem shares_ok {a b n : Nat} (ha : 1 ≤ a ∧ a ≤ 64) (hb : 1 ≤ b ∧ b ≤ 64) (hn : n < b) : ∃ l, pix_shares (a : Int) (b : Int) (n : Int) = some l ∧ Sh a b n l := by
  have hB : a * (n + 1) ≤ a * b := Nat.mul_le_mul_left _ hn
  have hC : a * b ≤ 64 * 64 := Nat.mul_le_mul ha.2 hb.2
  rw [Nat.mul_succ] at hB
  unfold pix_shares
  rw [gIN (n := a * n) (by rw [Int.natCast_mul]) (by omega), bnd_pure]
  refine fix_run (F := fun next1 s => pix_shares_l1 (a : Int) (b : Int) (n : Int) next1 s.1 s.2)
    (fun s => ∃ p : Nat, s.1 = (p : Int) ∧ a * n ≤ p ∧ p ≤ a * n + a ∧ s.2.length ≤ p - a * n ∧ (∀ z ∈ s.2, ∃ k q : Nat, z = ⟨(k : Int), (q : Int)⟩ ∧ k < a ∧ q ≤ 64) ∧ ∀ f : Nat → Int, shS f s.2 = sumR (fun i => f (i / b)) (a * n) (p - a * n))
    (fun s => a * n + a - s.1.toNat) (fun l => Sh a b n l) ?_ _ ⟨a * n, rfl, Nat.le_refl _, by omega, by simp, by simp, fun f => by simp [shS, sumR]⟩
  rintro ⟨p0, l⟩ ⟨p, h0, h1, h2, h3, h4, h5⟩
  simp only at h0 h3 h4 h5
  subst h0
  have e1 : gI ((n : Int) + 1) = some ((n + 1 : Nat) : Int) := gIN (by omega) (by omega)
  have e2 : gI ((a : Int) * ((n + 1 : Nat) : Int)) = some ((a * n + a : Nat) : Int) := gIN (by rw [← Int.natCast_mul, Nat.mul_succ]) (by omega)
  by_cases hp : p < a * n + a
  · have hk : p / b < a := Nat.div_lt_of_lt_mul (by rw [Nat.mul_comm]; omega)
    have hm := Nat.div_add_mod p b
    have hr := Nat.mod_lt p (show b > 0 by omega)
    have hkb : (p / b + 1) * b = b * (p / b) + b := by rw [Nat.succ_mul, Nat.mul_comm]
    have hkb2 : b * (p / b) ≤ 4096 := by omega
    generalize hE : min ((p / b + 1) * b) (a * n + a) = E at *
    have hE1 : p < E ∧ E ≤ p + 64 ∧ E ≤ a * n + a := by omega
    refine .inr ⟨((E : Nat), l ++ [⟨((p / b : Nat) : Int), ((E - p : Nat) : Int)⟩]), ⟨E, rfl, by omega, hE1.2.2, ?_, ?_, ?_⟩, by simp only; omega, fun next => ?_⟩
    · simp only [List.length_append, List.length_singleton]; omega
    · intro s hs
      rcases List.mem_append.1 hs with hs | hs
      · exact h4 s hs
      · exact ⟨p / b, E - p, List.mem_singleton.1 hs, hk, by omega⟩
    · intro f
      rw [shS_snoc, h5 f, show E - a * n = (p - a * n) + (E - p) from by omega, sumR_add, show a * n + (p - a * n) = p from by omega]
      have hc : sumR (fun i => f (i / b)) p (E - p) = f (p / b) * ((E - p : Nat) : Int) := sumR_const fun i g1 g2 => by
        have h8 : i < b * (p / b + 1) := by rw [Nat.mul_comm]; omega
        have h6 := Nat.div_lt_of_lt_mul h8
        have h7 := Nat.div_le_div_right (c := b) g1
        show f (i / b) = f (p / b)
        rw [show i / b = p / b from by omega]
      rw [hc]
      simp only [Int.toNat_natCast]
    · show pix_shares_l1 _ _ _ next (p : Int) l = _
      unfold pix_shares_l1
      rw [e1, bnd_pure, e2, bnd_pure, cnd_if, if_pos (by omega), gQuo_nn (by omega) (by omega), bnd_pure, ← Int.natCast_ediv, gIN (n := p / b + 1) (by omega) (by omega), bnd_pure,
        gIN (n := (p / b + 1) * b) (by rw [Int.natCast_mul]) (by omega), bnd_pure, bnd_pure, e2, bnd_pure]
      have hmin : min (((p / b + 1) * b : Nat) : Int) ((a * n + a : Nat) : Int) = (E : Int) := by omega
      rw [hmin, gIN (n := E - p) (by omega) (by omega), bnd_pure, gApp_ok (by simp only [List.length_singleton]; omega), bnd_pure]
  · have hpe : p = a * n + a := by omega
    subst hpe
    refine .inl ⟨l, ⟨by omega, h4, fun f => ?_⟩, fun next => ?_⟩
    · rw [h5 f, show a * n + a - a * n = a from by omega]
    · show pix_shares_l1 _ _ _ next _ l = _
      unfold pix_shares_l1
      rw [e1, bnd_pure, e2, bnd_pure, cnd_if, if_neg (by omega)]

/-! ### a pixel of a scaled image -/

def colS (w h : Nat) (l : List Int) (c : Nat) (i j : Nat) : Int := (pxN w l i j).getD c 0
/-- The sum of a colour, in parts. -/
def sumS (w h : Nat) (l : List Int) (W H : Nat) (x y c : Nat) : Int := sumR (fun j => sumR (fun i => colS w h l c (i / W) (j / H)) (w * x) w) (h * y) h
def scaleV (w h : Nat) (l : List Int) (W H : Nat) (x y c : Nat) : Int := wU8 ((2 * sumS w h l W H x y c + (w * h : Nat)) / (2 * (w * h : Nat)))
def scalePx (w h : Nat) (l : List Int) (W H : Nat) (x y : Nat) : List Int := [scaleV w h l W H x y 0, scaleV w h l W H x y 1, scaleV w h l W H x y 2]

theorem scalePx_ok (w h : Nat) (l : List Int) (W H x y : Nat) : (scalePx w h l W H x y).length = 3 ∧ ∀ v ∈ scalePx w h l W H x y, 0 ≤ v ∧ v ≤ 255 := ⟨rfl, fun v hv => by
  unfold scalePx at hv
  simp only [List.mem_cons, List.not_mem_nil, or_false] at hv
  rcases hv with rfl | rfl | rfl <;> unfold scaleV wU8 <;> omega⟩

theorem colS_in {w h : Nat} {l : List Int} (m : Im w h l) {c i j : Nat} (hi : i < w) (hj : j < h) : 0 ≤ colS w h l c i j ∧ colS w h l c i j ≤ 255 := by
  unfold colS
  rw [List.getD_eq_getElem?_getD]
  rcases Nat.lt_or_ge c (pxN w l i j).length with hc | hc
  · rw [List.getElem?_eq_getElem hc]; exact pxN_byte m _ (List.getElem_mem hc)
  · rw [List.getElem?_eq_none hc]; simp

theorem div_in {w W x i : Nat} (hW : 1 ≤ W) (hx : x < W) (hi : i < w * x + w) : i / W < w := by
  refine Nat.div_lt_of_lt_mul ?_
  have := Nat.mul_le_mul_left w (show x + 1 ≤ W by omega)
  rw [Nat.mul_succ, Nat.mul_comm w W] at this; omega

theorem row_in {w h : Nat} {l : List Int} (m : Im w h l) {W x c : Nat} (hW : 1 ≤ W) (hx : x < W) {j : Nat} (hj : j < h) : 0 ≤ sumR (fun i => colS w h l c (i / W) j) (w * x) w ∧ sumR (fun i => colS w h l c (i / W) j) (w * x) w ≤ 16320 := by
  have := sumR_in (g := fun i => colS w h l c (i / W) j) (b := 255) (a := w * x) (n := w) fun i h1 h2 => colS_in m (div_in hW hx h2) hj
  have hw := m.w2
  omega

theorem sumS_in {w h : Nat} {l : List Int} (m : Im w h l) {W H x y c : Nat} (hW : 1 ≤ W) (hx : x < W) (hH : 1 ≤ H) (hy : y < H) : 0 ≤ sumS w h l W H x y c ∧ sumS w h l W H x y c ≤ 1044480 := by
  have := sumR_in (g := fun j => sumR (fun i => colS w h l c (i / W) (j / H)) (w * x) w) (b := 16320) (a := h * y) (n := h) fun j h1 h2 => row_in m hW hx (div_in hH hy h2)
  have hh := m.h2
  unfold sumS
  omega

/-! ### the program's sums -/

theorem fill_add {ρ : Type} {F : (Int × (Nat → Int) → Option ρ) → Int × (Nat → Int) → Option ρ} (n : Nat) (g : Nat → Int) (J : (Nat → Int) → Option ρ) (m0 : Nat → Int)
    (step : ∀ (next : Int × (Nat → Int) → Option ρ) (k : Nat) (m : Nat → Int), k < n → m k = m0 k → F next ((k : Int), m) = next ((k : Int) + 1, setA m k (g k)))
    (last : ∀ next m, F next ((n : Int), m) = J m) : fix F (0, m0) = J (fun j => if j < n then g j else m0 j) := by
  have key := up2 (F := F) n (fun _ _ => J (fun j => if j < n then g j else m0 j)) (fun k m => ∀ j, m j = if j < k then g j else m0 j) (by
    intro next k m hk hm ih
    by_cases h : k < n
    · rw [step next k m h (by rw [hm k, if_neg (by omega)])]
      refine ih _ h fun j => ?_
      unfold setA
      by_cases hj : j = k
      · subst hj; rw [if_pos rfl, if_pos (by omega)]
      · rw [if_neg hj, hm j]
        by_cases h1 : j < k
        · rw [if_pos h1, if_pos (by omega)]
        · rw [if_neg h1, if_neg (by omega)]
    · have : k = n := by omega
      subst this
      rw [last]
      congr 1
      funext j; exact hm j) m0 (fun j => by simp)
  exact key

/-- One share of a column added. -/
def addC (w h : Nat) (l : List Int) (r : T_pix_share) (m : Nat → Int) (s : T_pix_share) : Nat → Int := fun j => if j < 3 then m j + colS w h l j s.at_.toNat r.at_.toNat * r.parts_ * s.parts_ else m j
def addR (w h : Nat) (l : List Int) (C : List T_pix_share) (m : Nat → Int) (r : T_pix_share) : Nat → Int := C.foldl (addC w h l r) m

theorem addC_fold {w h : Nat} {l : List Int} {r : T_pix_share} {j : Nat} (hj : j < 3) : ∀ (C : List T_pix_share) (m : Nat → Int), C.foldl (addC w h l r) m j = m j + shS (fun i => colS w h l j i r.at_.toNat * r.parts_) C
  | [], m => by simp [shS]
  | s :: C, m => by
    rw [List.foldl_cons, addC_fold hj C]
    unfold addC shS
    rw [if_pos hj]
    simp only [List.map_cons, List.sum_cons]; omega
theorem addR_fold {w h : Nat} {l : List Int} {C : List T_pix_share} {j : Nat} (hj : j < 3) : ∀ (R : List T_pix_share) (m : Nat → Int), R.foldl (addR w h l C) m j = m j + (R.map fun r => shS (fun i => colS w h l j i r.at_.toNat * r.parts_) C).sum
  | [], m => by simp
  | r :: R, m => by
    rw [List.foldl_cons, addR_fold hj R]
    unfold addR
    rw [addC_fold hj]
    simp only [List.map_cons, List.sum_cons]; omega

theorem shS_mul (f : Nat → Int) (c : Int) : ∀ l : List T_pix_share, shS (fun i => f i * c) l = shS f l * c
  | [] => by simp [shS]
  | s :: l => by
    have := shS_mul f c l
    unfold shS at *
    simp only [List.map_cons, List.sum_cons]
    rw [this, Int.add_mul, Int.mul_assoc, Int.mul_comm c, ← Int.mul_assoc]

theorem total {w h W H x y : Nat} {l : List Int} {R C : List T_pix_share} (hR : Sh h H y R) (hC : Sh w W x C) {j : Nat} (hj : j < 3) : R.foldl (addR w h l C) (fun _ => 0) j = sumS w h l W H x y j := by
  rw [addR_fold hj, Int.zero_add]
  have e : (R.map fun r => shS (fun i => colS w h l j i r.at_.toNat * r.parts_) C) = R.map fun r => (fun q => sumR (fun i => colS w h l j (i / W) q) (w * x) w) r.at_.toNat * r.parts_ := by
    refine List.map_congr_left fun r hr => ?_
    rw [shS_mul, hC.sum]
  rw [e]
  exact hR.sum fun q => sumR (fun i => colS w h l j (i / W) q) (w * x) w

theorem prod_in {v a b : Int} (hv : 0 ≤ v ∧ v ≤ 255) (ha : 0 ≤ a ∧ a ≤ 64) (hb : 0 ≤ b ∧ b ≤ 64) : (0 ≤ v * a ∧ v * a ≤ 16320) ∧ 0 ≤ v * a * b ∧ v * a * b ≤ 1044480 := by
  obtain ⟨x, rfl⟩ := Int.eq_ofNat_of_zero_le hv.1
  obtain ⟨y, rfl⟩ := Int.eq_ofNat_of_zero_le ha.1
  obtain ⟨z, rfl⟩ := Int.eq_ofNat_of_zero_le hb.1
  have h1 : x * y ≤ 255 * 64 := Nat.mul_le_mul (by omega) (by omega)
  have h2 : x * y * z ≤ 16320 * 64 := Nat.mul_le_mul h1 (by omega)
  rw [← Int.natCast_mul, ← Int.natCast_mul]; omega

end Go.M

/- Plain lemmas about images: the scaling of the program and of the reference. Conditions: those that each lemma names. -/
namespace Go.M
open Go.Md Go.Pl

theorem ofL_col {w h : Nat} {l : List Int} {a b j : Nat} (hj : j < 3) : ofL (l.drop (3 * (b * w + a))) j = colS w h l j a b := by
  unfold ofL colS pxN
  rw [List.getD_eq_getElem?_getD, List.getD_eq_getElem?_getD, List.getElem?_take, if_pos hj]; rfl

theorem shares_val {a b n : Nat} (ha : 1 ≤ a ∧ a ≤ 64) (hb : 1 ≤ b ∧ b ≤ 64) (hn : n < b) : pix_shares (a : Int) (b : Int) (n : Int) = some (val (pix_shares (a : Int) (b : Int) (n : Int))) ∧ Sh a b n (val (pix_shares (a : Int) (b : Int) (n : Int))) := by
  obtain ⟨l, h1, h2⟩ := shares_ok ha hb hn
  rw [h1]; exact ⟨rfl, h2⟩

/-- The program's sums over the shares of one pixel. -/
theorem sums_eq {w h : Nat} {l : List Int} (m : Im w h l) {W H x y : Nat} (hW : 1 ≤ W ∧ W ≤ 64) (hH : 1 ≤ H ∧ H ≤ 64) (hx : x < W) (hy : y < H) {R C : List T_pix_share} (hR : Sh h H y R) (hC : Sh w W x C)
    (t25 : T_api_Image) (t30 q6 : Int) (l6 : List Int) (y0 x0 : Int) (next4 : Int × List Int → Option T_api_Image) :
    fix (fun next9 s => pix_scaled_l9 ⟨w, h, l⟩ t25 t30 y0 l R x0 l6 next4 C next9 s.1 s.2) (0, fun _ => 0) = pix_scaled_j6 t25 t30 y0 x0 l6 next4 (R.foldl (addR w h l C) fun _ => 0) := by
  refine fix_list (F := fun next9 s => pix_scaled_l9 ⟨w, h, l⟩ t25 t30 y0 l R x0 l6 next4 C next9 s.1 s.2) R (addR w h l C) (fun m => pix_scaled_j6 t25 t30 y0 x0 l6 next4 m) (fun k m => ∀ j, j < 3 → 0 ≤ m j ∧ m j ≤ k * 4278190080) (fun next9 k m0 hk hm => ?_) (fun next9 m0 hm => ?_) _ (fun j hj => by simp)
  · obtain ⟨ra, rp, hr, hr1, hr2⟩ := hR.each _ (List.getElem_mem hk)
    have inner : fix (fun next11 s => pix_scaled_l11 ⟨w, h, l⟩ l C (k : Int) next9 R[k] next11 s.1 s.2) (0, m0) = pix_scaled_j10 (k : Int) next9 (C.foldl (addC w h l R[k]) m0) := by
      refine fix_list (F := fun next11 s => pix_scaled_l11 ⟨w, h, l⟩ l C (k : Int) next9 R[k] next11 s.1 s.2) C (addC w h l R[k]) (fun m => pix_scaled_j10 (k : Int) next9 m) (fun q m => ∀ j, j < 3 → 0 ≤ m j ∧ m j ≤ k * 4278190080 + q * 1044480) (fun next11 q m1 hq hm1 => ?_) (fun next11 m1 hm1 => ?_) _ (fun j hj => by have := hm j hj; omega)
      · obtain ⟨ca, cp, hc, hc1, hc2⟩ := hC.each _ (List.getElem_mem hq)
        have hkl := hR.len
        have hql := hC.len
        have hpr : ∀ j, j < 3 → (0 ≤ colS w h l j ca ra * rp ∧ colS w h l j ca ra * rp ≤ 16320) ∧ 0 ≤ colS w h l j ca ra * rp * cp ∧ colS w h l j ca ra * rp * cp ≤ 1044480 := fun j hj => prod_in (colS_in m hc1 hr1) (by omega) (by omega)
        have hadd : addC w h l R[k] m1 C[q] = fun j => if j < 3 then m1 j + colS w h l j ca ra * rp * cp else m1 j := by
          funext j; unfold addC; rw [hr, hc]; rfl
        refine ⟨?_, fun j hj => ?_⟩
        · show pix_scaled_l11 _ _ _ _ _ _ next11 (q : Int) m1 = _
          unfold pix_scaled_l11
          rw [cnd_if, if_pos (by omega), gAt_nat hq, bnd_pure, hc, hr]
          simp only
          rw [pix_at_eq m hc1 hr1, bnd_pure]
          refine (fill_add (F := fun next13 s => pix_scaled_l13 ⟨(ra : Int), (rp : Int)⟩ (q : Int) next11 ⟨(ca : Int), (cp : Int)⟩ (ofL (l.drop (3 * (ra * w + ca)))) next13 s.1 s.2) 3 (fun j => m1 j + colS w h l j ca ra * rp * cp) (fun m => pix_scaled_j12 (q : Int) next11 m) m1 (fun next13 j m2 hj hmj => ?_) (fun next13 m2 => ?_)).trans ?_
          · show pix_scaled_l13 _ _ _ _ _ next13 (j : Int) m2 = _
            unfold pix_scaled_l13
            have hv := colS_in m (c := j) hc1 hr1
            have hp := hpr j hj
            have hb := hm1 j hj
            rw [cnd_if, if_pos (by omega), gIx_nat hj, bnd_pure, bnd_pure, ofL_col (h := h) hj, gK_ok (by omega), bnd_pure]
            simp only
            rw [gI_ok (by omega), bnd_pure, gI_ok (by omega), bnd_pure, hmj, gI_ok (by omega), bnd_pure, bnd_pure, gI_ok (by omega), bnd_pure]
          · show pix_scaled_l13 _ _ _ _ _ next13 3 m2 = _
            unfold pix_scaled_l13
            rw [cnd_if, if_neg (by omega)]
          · unfold pix_scaled_j12
            rw [gI_ok (by omega), bnd_pure]
            rw [← hadd, hc, hr]
        · have hb := hm1 j hj
          have hp := hpr j hj
          rw [hadd]
          simp only [if_pos hj]
          omega
      · show pix_scaled_l11 _ _ _ _ _ _ next11 _ m1 = _
        unfold pix_scaled_l11
        rw [cnd_if, if_neg (by omega)]
    have hkl := hR.len
    have hql := hC.len
    refine ⟨?_, fun j hj => ?_⟩
    · show pix_scaled_l9 _ _ _ _ _ _ _ _ _ _ next9 (k : Int) m0 = _
      unfold pix_scaled_l9
      rw [cnd_if, if_pos (by omega), gAt_nat hk, bnd_pure, inner]
      unfold pix_scaled_j10
      rw [gI_ok (by omega), bnd_pure]; rfl
    · have hb := hm j hj
      unfold addR
      rw [addC_fold hj]
      have hs : shS (fun i => colS w h l j i R[k].at_.toNat * R[k].parts_) C = shS (fun i => colS w h l j i ra) C * rp := by
        rw [hr]; exact shS_mul (fun i => colS w h l j i ra) rp C
      have hrow := row_in m (c := j) hW.1 hx hr1
      rw [hs, hC.sum]
      obtain ⟨v, hv⟩ := Int.eq_ofNat_of_zero_le hrow.1
      rw [hv] at hrow ⊢
      have : v * rp ≤ 16320 * 64 := Nat.mul_le_mul (by omega) hr2
      rw [← Int.natCast_mul]
      omega
  · show pix_scaled_l9 _ _ _ _ _ _ _ _ _ _ next9 _ m0 = _
    unfold pix_scaled_l9
    rw [cnd_if, if_neg (by omega)]

theorem pix_scaled_eq {w h : Nat} {l : List Int} (m : Im w h l) {W H : Nat} (hW : 1 ≤ W ∧ W ≤ 64) (hH : 1 ≤ H ∧ H ≤ 64) : pix_scaled ⟨w, h, l⟩ (W : Int) (H : Int) = some ⟨W, H, imgL W H (scalePx w h l W H)⟩ := by
  have hA := m.area
  have hA1 := m.pos
  have hB : W * H ≤ 4096 := Nat.mul_le_mul hW.2 hH.2
  have hwb : 1 ≤ w ∧ w ≤ 64 := ⟨m.w1, m.w2⟩
  have hhb : 1 ≤ h ∧ h ≤ 64 := ⟨m.h1, m.h2⟩
  unfold pix_scaled
  simp only
  rw [blank_eq hB (by omega) (scalePx w h l W H), bnd_pure, gIN (n := w * h) (by rw [Int.natCast_mul]) (by omega), bnd_pure]
  refine (grid (F2 := fun next2 s => pix_scaled_l2 ⟨w, h, l⟩ (W : Int) (H : Int) ⟨W, H, fill3 W H (scalePx w h l W H) 0⟩ ((w * h : Nat) : Int) next2 s.1 s.2.1 s.2.2)
    (G := fun y next next4 s => pix_scaled_l4 ⟨w, h, l⟩ (W : Int) ⟨W, H, fill3 W H (scalePx w h l W H) 0⟩ ((w * h : Nat) : Int) (y : Int) l next (val (pix_shares (h : Int) (H : Int) (y : Int))) next4 s.1 s.2)
    W H (fill3 W H (scalePx w h l W H)) (fun q => (l, q)) (fun q => some ⟨W, H, q⟩) (fun next y hy => ?_) (fun next => ?_) (fun y next next4 x hy hx => ?_) (fun y next next4 hy => ?_)).trans ?_
  · show pix_scaled_l2 _ _ _ _ _ next (y : Int) l _ = _
    unfold pix_scaled_l2
    simp only
    rw [cnd_if, if_pos (by omega), (shares_val hhb hH hy).1, bnd_pure]
    rfl
  · show pix_scaled_l2 _ _ _ _ _ next _ l _ = _
    unfold pix_scaled_l2
    rw [cnd_if, if_neg (by omega)]; rfl
  · show pix_scaled_l4 _ _ _ _ _ l next _ next4 (x : Int) _ = _
    unfold pix_scaled_l4
    simp only
    obtain ⟨e1, s1⟩ := shares_val hhb hH hy
    obtain ⟨e2, s2⟩ := shares_val hwb hW hx
    rw [cnd_if, if_pos (by omega), e2, bnd_pure]
    refine (sums_eq m hW hH hx hy s1 s2 _ _ 0 _ _ _ next4).trans ?_
    unfold pix_scaled_j6
    have ht : ∀ j, j < 3 → _ := fun j hj => total (l := l) (w := w) (h := h) s1 s2 (j := j) hj
    refine (fill_loop (F := fun next8 s => pix_scaled_l8 _ _ _ _ _ next4 _ next8 s.1 s.2) 3 (fun j => scaleV w h l W H x y j) (fun p => pix_scaled_j7 ⟨W, H, fill3 W H (scalePx w h l W H) 0⟩ (y : Int) (x : Int) (fill3 W H (scalePx w h l W H) (y * W + x)) next4 p) (fun next8 j p hj => ?_) (fun next8 p => ?_) (fun _ => 0)).trans ?_
    · show pix_scaled_l8 _ _ _ _ _ next4 _ next8 (j : Int) p = _
      unfold pix_scaled_l8
      have hs := sumS_in m (c := j) hW.1 hx hH.1 hy
      rw [cnd_if, if_pos (by omega), gIx_nat hj, bnd_pure, ht j hj, gI_ok (by omega), bnd_pure, gI_ok (by omega), bnd_pure, gI_ok (by omega), bnd_pure, gQuo_nn (by omega) (by omega), bnd_pure, bnd_pure, gI_ok (by omega), bnd_pure]
      rfl
    · show pix_scaled_l8 _ _ _ _ _ next4 _ next8 3 p = _
      unfold pix_scaled_l8
      rw [cnd_if, if_neg (by omega)]
    · unfold pix_scaled_j7 pix_scaled_j5
      simp only
      rw [pix_set_eq (fun k hk => (scalePx_ok w h l W H _ _).1) hB hx hy (px := scalePx w h l W H) (p := fun j => if j < 3 then scaleV w h l W H x y j else 0) rfl, bnd_pure, gI_ok (by omega), bnd_pure]
  · show pix_scaled_l4 _ _ _ _ _ l next _ next4 _ _ = _
    unfold pix_scaled_l4 pix_scaled_j3
    rw [cnd_if, if_neg (by omega), gI_ok (by omega), bnd_pure, Nat.succ_mul]
  · rw [fill3_all]

theorem scale_im {w h : Nat} {l : List Int} {W H : Nat} (hW : 1 ≤ W ∧ W ≤ 64) (hH : 1 ≤ H ∧ H ≤ 64) : Im W H (imgL W H (scalePx w h l W H)) := imgL_im hW hH fun x y _ _ => scalePx_ok w h l W H x y

theorem pix_Scale_eq {w h : Nat} {l : List Int} (m : Im w h l) {W H : Nat} (hW : 1 ≤ W ∧ W ≤ 64) (hH : 1 ≤ H ∧ H ≤ 64) : pix_Scale ⟨w, h, l⟩ (W : Int) (H : Int) = some (⟨W, H, imgL W H (scalePx w h l W H)⟩, 0) := by
  unfold pix_Scale
  rw [pix_Check_eq, im_imgE m, bnd_pure, cnd_if, if_neg (fun h => h rfl), pix_outside_eq, bnd_pure, decide_eq_false (by omega), decide_eq_false (by omega)]
  show bnd (pix_outside _ _ _) _ = _
  rw [pix_outside_eq, bnd_pure, decide_eq_false (by omega), decide_eq_false (by omega)]
  show bnd (pix_scaled _ _ _) _ = _
  rw [pix_scaled_eq m hW hH, bnd_pure]

/-! ### the reference -/

/-- A loop that adds up. -/
theorem sum_loop {ρ : Type} {F : (Int × Int → Option ρ) → Int × Int → Option ρ} (a n : Nat) (g : Nat → Int) (J : Int → Option ρ) (v0 b : Int) (hv0 : 0 ≤ v0) (hg : ∀ i, a ≤ i → i < a + n → 0 ≤ g i ∧ g i ≤ b) (hb : 0 ≤ b)
    (step : ∀ next (i : Nat) (v : Int), a ≤ i → i < a + n → 0 ≤ v ∧ v ≤ v0 + b * n → F next (v, (i : Int)) = next (v + g i, (i : Int) + 1)) (last : ∀ next v, 0 ≤ v → F next (v, ((a + n : Nat) : Int)) = J v) : fix F (v0, (a : Int)) = J (v0 + sumR g a n) := by
  refine fix_of (F := F) (fun _ => J (v0 + sumR g a n)) (fun s => ∃ k : Nat, k ≤ n ∧ s = (v0 + sumR g a k, ((a + k : Nat) : Int))) (fun s => a + n - s.2.toNat) ?_ (v0, (a : Int)) ⟨0, by omega, by simp [sumR]⟩
  rintro next _ ⟨k, hk, rfl⟩ ih
  have h1 := sumR_in (g := g) (b := b) (a := a) (n := k) fun i h1 h2 => hg i h1 (by omega)
  have h2 : b * (k : Int) ≤ b * (n : Int) := Int.mul_le_mul_of_nonneg_left (by omega) hb
  by_cases h : k < n
  · rw [step next (a + k) _ (by omega) (by omega) (by omega)]
    refine ih _ ⟨k + 1, by omega, ?_⟩ (by simp only; omega)
    rw [sumR_add g a k 1]
    simp only [sumR]
    congr 1
    · omega
  · have : k = n := by omega
    subst this
    exact last next _ (by omega)

end Go.M
