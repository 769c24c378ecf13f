/- Plain lemmas about images: scaled ones. Conditions: those that each lemma names. -/
import Derived.Test.YtllnhnnpmmnomaaTsI
namespace Go.M
open Go.Md Go.Pl

/-! ### sums -/

def sumR (g : Nat → Int) : Nat → Nat → Int
  | _, 0 => 0
  | a, n + 1 => g a + sumR g (a + 1) n

theorem sumR_add (g : Nat → Int) : ∀ a n m, sumR g a (n + m) = sumR g a n + sumR g (a + n) m
  | a, 0, m => by simp [sumR]
  | a, n + 1, m => by
    rw [show n + 1 + m = (n + m) + 1 from by omega]
    simp only [sumR]
    rw [sumR_add g (a + 1) n m, show a + 1 + n = a + (n + 1) from by omega]; omega
theorem sumR_const {g : Nat → Int} {v : Int} : ∀ {a n}, (∀ i, a ≤ i → i < a + n → g i = v) → sumR g a n = v * n
  | a, 0, _ => by simp [sumR]
  | a, n + 1, h => by
    simp only [sumR]
    rw [h a (by omega) (by omega), sumR_const fun i h1 h2 => h i (by omega) (by omega), Int.natCast_add, Int.mul_add]; omega
theorem sumR_congr {g g' : Nat → Int} : ∀ {a n}, (∀ i, a ≤ i → i < a + n → g i = g' i) → sumR g a n = sumR g' a n
  | a, 0, _ => rfl
  | a, n + 1, h => by
    simp only [sumR]
    rw [h a (by omega) (by omega), sumR_congr fun i h1 h2 => h i (by omega) (by omega)]
theorem sumR_in {g : Nat → Int} {b : Int} : ∀ {a n}, (∀ i, a ≤ i → i < a + n → 0 ≤ g i ∧ g i ≤ b) → 0 ≤ sumR g a n ∧ sumR g a n ≤ b * n
  | a, 0, _ => by simp [sumR]
  | a, n + 1, h => by
    have h1 := h a (by omega) (by omega)
    have h2 := sumR_in (g := g) (b := b) (a := a + 1) (n := n) fun i h1 h2 => h i (by omega) (by omega)
    simp only [sumR]
    rw [Int.natCast_add, Int.mul_add]; omega

/-! ### shares -/

/-! ### a pixel of a scaled image -/

def colS (w h : Nat) (l : List Int) (c : Nat) (i j : Nat) : Int := (pxN w l i j).getD c 0
/-- The sum of a colour, in parts. -/
def sumS (w h : Nat) (l : List Int) (W H : Nat) (x y c : Nat) : Int := sumR (fun j => sumR (fun i => colS w h l c (i / W) (j / H)) (w * x) w) (h * y) h
def scaleV (w h : Nat) (l : List Int) (W H : Nat) (x y c : Nat) : Int := wU8 ((2 * sumS w h l W H x y c + (w * h : Nat)) / (2 * (w * h : Nat)))
def scalePx (w h : Nat) (l : List Int) (W H : Nat) (x y : Nat) : List Int := [scaleV w h l W H x y 0, scaleV w h l W H x y 1, scaleV w h l W H x y 2]

theorem scalePx_ok (w h : Nat) (l : List Int) (W H x y : Nat) : (scalePx w h l W H x y).length = 3 ∧ ∀ v ∈ scalePx w h l W H x y, 0 ≤ v ∧ v ≤ 255 := ⟨rfl, fun v hv => by
  unfold scalePx at hv
  simp only [List.mem_cons, List.not_mem_nil, or_false] at hv
  rcases hv with rfl | rfl | rfl <;> unfold scaleV wU8 <;> omega⟩

theorem colS_in {w h : Nat} {l : List Int} (m : Im w h l) {c i j : Nat} (hi : i < w) (hj : j < h) : 0 ≤ colS w h l c i j ∧ colS w h l c i j ≤ 255 := by
  unfold colS
  rw [List.getD_eq_getElem?_getD]
  rcases Nat.lt_or_ge c (pxN w l i j).length with hc | hc
  · rw [List.getElem?_eq_getElem hc]; exact pxN_byte m _ (List.getElem_mem hc)
  · rw [List.getElem?_eq_none hc]; simp

theorem div_in {w W x i : Nat} (hW : 1 ≤ W) (hx : x < W) (hi : i < w * x + w) : i / W < w := by
  refine Nat.div_lt_of_lt_mul ?_
  have := Nat.mul_le_mul_left w (show x + 1 ≤ W by omega)
  rw [Nat.mul_succ, Nat.mul_comm w W] at this; omega

theorem row_in {w h : Nat} {l : List Int} (m : Im w h l) {W x c : Nat} (hW : 1 ≤ W) (hx : x < W) {j : Nat} (hj : j < h) : 0 ≤ sumR (fun i => colS w h l c (i / W) j) (w * x) w ∧ sumR (fun i => colS w h l c (i / W) j) (w * x) w ≤ 16320 := by
  have := sumR_in (g := fun i => colS w h l c (i / W) j) (b := 255) (a := w * x) (n := w) fun i h1 h2 => colS_in m (div_in hW hx h2) hj
  have hw := m.w2
  omega

theorem sumS_in {w h : Nat} {l : List Int} (m : Im w h l) {W H x y c : Nat} (hW : 1 ≤ W) (hx : x < W) (hH : 1 ≤ H) (hy : y < H) : 0 ≤ sumS w h l W H x y c ∧ sumS w h l W H x y c ≤ 1044480 := by
  have := sumR_in (g := fun j => sumR (fun i => colS w h l c (i / W) (j / H)) (w * x) w) (b := 16320) (a := h * y) (n := h) fun j h1 h2 => row_in m hW hx (div_in hH hy h2)
  have hh := m.h2
  unfold sumS
  omega

/-! ### the program's sums -/

theorem fill_add {ρ : Type} {F : (Int × (Nat → Int) → Option ρ) → Int × (Nat → Int) → Option ρ} (n : Nat) (g : Nat → Int) (J : (Nat → Int) → Option ρ) (m0 : Nat → Int)
    (step : ∀ (next : Int × (Nat → Int) → Option ρ) (k : Nat) (m : Nat → Int), k < n → m k = m0 k → F next ((k : Int), m) = next ((k : Int) + 1, setA m k (g k)))
    (last : ∀ next m, F next ((n : Int), m) = J m) : fix F (0, m0) = J (fun j => if j < n then g j else m0 j) := by
  have key := up2 (F := F) n (fun _ _ => J (fun j => if j < n then g j else m0 j)) (fun k m => ∀ j, m j = if j < k then g j else m0 j) (by
    intro next k m hk hm ih
    by_cases h : k < n
    · rw [step next k m h (by rw [hm k, if_neg (by omega)])]
      refine ih _ h fun j => ?_
      unfold setA
      by_cases hj : j = k
      · subst hj; rw [if_pos rfl, if_pos (by omega)]
      · rw [if_neg hj, hm j]
        by_cases h1 : j < k
        · rw [if_pos h1, if_pos (by omega)]
        · rw [if_neg h1, if_neg (by omega)]
    · have : k = n := by omega
      subst this
      rw [last]
      congr 1
      funext j; exact hm j) m0 (fun j => by simp)
  exact key

theorem prod_in {v a b : Int} (hv : 0 ≤ v ∧ v ≤ 255) (ha : 0 ≤ a ∧ a ≤ 64) (hb : 0 ≤ b ∧ b ≤ 64) : (0 ≤ v * a ∧ v * a ≤ 16320) ∧ 0 ≤ v * a * b ∧ v * a * b ≤ 1044480 := by
  obtain ⟨x, rfl⟩ := Int.eq_ofNat_of_zero_le hv.1
  obtain ⟨y, rfl⟩ := Int.eq_ofNat_of_zero_le ha.1
  obtain ⟨z, rfl⟩ := Int.eq_ofNat_of_zero_le hb.1
  have h1 : x * y ≤ 255 * 64 := Nat.mul_le_mul (by omega) (by omega)
  have h2 : x * y * z ≤ 16320 * 64 := Nat.mul_le_mul h1 (by omega)
  rw [← Int.natCast_mul, ← Int.natCast_mul]; omega

end Go.M

/- Plain lemmas about images: the scaling of the program and of the reference. Conditions: those that each lemma names. -/
namespace Go.M
open Go.Md Go.Pl

theorem ofL_col {w h : Nat} {l : List Int} {a b j : Nat} (hj : j < 3) : ofL (l.drop (3 * (b * w + a))) j = colS w h l j a b := by
  unfold ofL colS pxN
  rw [List.getD_eq_getElem?_getD, List.getD_eq_getElem?_getD, List.getElem?_take, if_pos hj]; rfl

theorem scale_im {w h : Nat} {l : List Int} {W H : Nat} (hW : 1 ≤ W ∧ W ≤ 64) (hH : 1 ≤ H ∧ H ≤ 64) : Im W H (imgL W H (scalePx w h l W H)) := imgL_im hW hH fun x y _ _ => scalePx_ok w h l W H x y

/-! ### the reference -/

/-- A loop that adds up. -/
theorem sum_loop {ρ : Type} {F : (Int × Int → Option ρ) → Int × Int → Option ρ} (a n : Nat) (g : Nat → Int) (J : Int → Option ρ) (v0 b : Int) (hv0 : 0 ≤ v0) (hg : ∀ i, a ≤ i → i < a + n → 0 ≤ g i ∧ g i ≤ b) (hb : 0 ≤ b)
    (step : ∀ next (i : Nat) (v : Int), a ≤ i → i < a + n → 0 ≤ v ∧ v ≤ v0 + b * n → F next (v, (i : Int)) = next (v + g i, (i : Int) + 1)) (last : ∀ next v, 0 ≤ v → F next (v, ((a + n : Nat) : Int)) = J v) : fix F (v0, (a : Int)) = J (v0 + sumR g a n) := by
  refine fix_of (F := F) (fun _ => J (v0 + sumR g a n)) (fun s => ∃ k : Nat, k ≤ n ∧ s = (v0 + sumR g a k, ((a + k : Nat) : Int))) (fun s => a + n - s.2.toNat) ?_ (v0, (a : Int)) ⟨0, by omega, by simp [sumR]⟩
  rintro next _ ⟨k, hk, rfl⟩ ih
  have h1 := sumR_in (g := g) (b := b) (a := a) (n := k) fun i h1 h2 => hg i h1 (by omega)
  have h2 : b * (k : Int) ≤ b * (n : Int) := Int.mul_le_mul_of_nonneg_left (by omega) hb
  by_cases h : k < n
  · rw [step next (a + k) _ (by omega) (by omega) (by omega)]
    refine ih _ ⟨k + 1, by omega, ?_⟩ (by simp only; omega)
    rw [sumR_add g a k 1]
    simp only [sumR]
    congr 1
    · omega
  · have : k = n := by omega
    subst this
    exact last next _ (by omega)

end Go.M
